/-
  Memory of the verifier's flatBytes: rows that lie apart, marked and grown.
-/
import Derived.Test.YtcapapnhlkmeaaaGreatDoorM28
import Derived.Test.YtcapapnhlkmeaaaGreatDoorM29
namespace Go.Proofs.YtcapapnhlkmeaaaGreatDoor
open Go.RowKit

def rowU (A : Nat → Option Addr) (n c : Nat → Nat) (k : Nat) : Value := .slice (A k) (n k) (c k)
def bys (l : List Int) : List Value := l.map (Value.int .u8)
theorem bys_length (l : List Int) : (bys l).length = l.length := by simp [bys]
/-- The row of rows. -/
def LsOwn (w : World) (B : Nat) (L : Option Addr) (cl N : Nat) (A : Nat → Option Addr) (n c : Nat → Nat) : Prop := Own w B 32 L cl ((List.range N).map (rowU A n c))
def Rows_ (w : World) (B N : Nat) (A : Nat → Option Addr) (c : Nat → Nat) (X : Nat → List Int) : Prop := ∀ k, k < N → Own w B 5 (A k) (c k) (bys (X k))
def Dis (N : Nat) (A : Nat → Option Addr) : Prop := ∀ k j, k < N → j < N → k ≠ j → ∀ i, blk (A k) i → ¬ blk (A j) i
def RB (N : Nat) (A : Nat → Option Addr) : Nat → Prop := fun i => ∃ k, k < N ∧ blk (A k) i
def mk (k n : Nat) : List Int := mks (markB k) n
theorem mk_length (k n : Nat) : (mk k n).length = n := mks_length _ _
theorem mk_get {k i n : Nat} (h : i < n) : (mk k n)[i]? = some (markB k i) := mks_get _ h
theorem mk_succ (k n : Nat) : mk k (n + 1) = mk k n ++ [markB k n] := mks_succ _ _

theorem LsOwn.cell {w : World} {B cl N : Nat} {L : Option Addr} {A : Nat → Option Addr} {n c : Nat → Nat} (h : LsOwn w B L cl N A n c) {k : Nat} (hk : k < N) :
    ∃ gl, L = some ⟨gl, 0, none⟩ ∧ w.cell? ⟨gl, k, none⟩ = some (.slice (A k) (n k) (c k)) := by
  obtain ⟨gl, rfl⟩ := Own.some_ h (by simp; omega)
  obtain ⟨ad, ha, hc⟩ := Own.rd h k (rowU A n c k) (by simp [hk])
  injection ha with ha
  subst ha
  rw [add_lit', Nat.zero_add] at hc
  exact ⟨gl, rfl, hc⟩
theorem Own.cellAt {w : World} {B : Nat} {e : TypeId} {g c : Nat} {xs : List Value} (h : Own w B e (some ⟨g, 0, none⟩) c xs) {i : Nat} {u : Value} (hi : xs[i]? = some u) : w.cell? ⟨g, i, none⟩ = some u := by
  obtain ⟨ad, ha, hc⟩ := h.rd i u hi
  injection ha with ha
  subst ha
  rw [add_lit', Nat.zero_add] at hc
  exact hc
theorem Own.intAt {w : World} {B : Nat} {e : TypeId} {g c : Nat} {xs : List Int} (h : Own w B e (some ⟨g, 0, none⟩) c (bys xs)) {i : Nat} (hi : i < xs.length) : ∃ x, w.cell? ⟨g, i, none⟩ = some (.int .u8 x) ∧ xs[i]? = some x :=
  ⟨xs[i], h.cellAt (by simp [bys, hi]), List.getElem?_eq_getElem hi⟩

def upd {α : Type} (f : Nat → α) (k : Nat) (v : α) : Nat → α := fun j => if j = k then v else f j
theorem upd_same {α : Type} (f : Nat → α) (k : Nat) (v : α) : upd f k v k = v := by simp [upd]
theorem upd_ne {α : Type} (f : Nat → α) (k : Nat) (v : α) {j : Nat} (h : j ≠ k) : upd f k v j = f j := by simp [upd, h]

/-- A store of a mark into one row. -/
theorem mark_step {w w1 : World} {B cl N : Nat} {L : Option Addr} {A : Nat → Option Addr} {n c : Nat → Nat} {X : Nat → List Int} {k g i : Nat} (hL : LsOwn w B L cl N A n c) (hR : Rows_ w B N A c X) (hd : Dis N A)
    (hk : k < N) (hA : A k = some ⟨g, 0, none⟩) (hE : Ext w w1) (m : Int) :
    LsOwn (w1.setCell ⟨g, i, none⟩ (.int .u8 m)) B L cl N A n c ∧ Rows_ (w1.setCell ⟨g, i, none⟩ (.int .u8 m)) B N A c (upd X k ((X k).set i m)) ∧ Fr (RB N A) w (w1.setCell ⟨g, i, none⟩ (.int .u8 m)) := by
  have hg : blk (A k) g := by rw [hA]; rfl
  have hF : Fr (fun j => j = g) w (w1.setCell ⟨g, i, none⟩ (.int .u8 m)) := (Fr.ofExt (fun j => j = g) hE).set (p := ⟨g, i, none⟩) (.inl rfl) _
  refine ⟨Own.fr hL hF (fun j hj e => ?_), fun j hj => ?_, hF.mono (fun j _ e => ⟨k, hk, by rw [e]; exact hg⟩)⟩
  · subst e
    exact Own.ne (hR k hk) hL (by decide) hg hj
  · by_cases hjk : j = k
    · subst hjk
      rw [upd_same]
      have h1 := (hR j hj).ext hE
      rw [hA] at h1 ⊢
      refine Own.cong (h1.set i (.int .u8 m)) ?_
      simp [bys, List.map_set]
    · rw [upd_ne _ _ _ hjk]
      exact (hR j hj).fr hF (fun i' hi' e => by subst e; exact hd k j hk hj (fun h => hjk h.symm) i' hg hi')

/-- Of a row that grew out of another one: both read on. -/
theorem pair_append {w w2 : World} {B : Nat} {A A' A2 : Option Addr} {c c' c2 : Nat} {X X' Y : List Value} (h : Own w B 5 A c X) (h' : Own w B 5 A' c' X') (hp : X <+: X')
    (h2 : Own w2 B 5 A2 c2 (X' ++ Y)) (hg : (A2 = A' ∧ c2 = c' ∧ w.grownBy w2 (A'.map Addr.block)) ∨ (A2 = some ⟨w.heap.size, 0, none⟩ ∧ w.grownBy w2 none)) : Own w2 B 5 A c X := by
  rcases hg with ⟨rfl, hcc, hg⟩ | ⟨rfl, hg⟩
  · by_cases hs : ∃ i, blk A i ∧ blk A2 i
    · obtain ⟨i, h1, h2i⟩ := hs
      rcases h.cases with ⟨rfl, _, _⟩ | ⟨g, cur, rfl, hB, hlt, hh, hle, hm, hsz, htk⟩
      · simp [blk] at h1
      · rcases h'.cases with ⟨rfl, _, _⟩ | ⟨g', cur', rfl, hB', hlt', hh', hle', hm', hsz', htk'⟩
        · simp [blk] at h2i
        · simp [blk] at h1 h2i
          obtain rfl : g = g' := by omega
          rw [hh] at hh'
          injection hh' with hh'
          injection hh' with hcur
          subst hcur
          rcases h2.cases with ⟨h0, _, _⟩ | ⟨g2, cur2, he, hB2, hlt2, hh2, hle2, hm2, hsz2, htk2⟩
          · cases h0
          · injection he with he
            injection he with he
            subst he
            obtain ⟨Z, hZ⟩ := hp
            refine Own.mk hB hh2 hle hm (by omega) ?_
            have h3 := congrArg (List.take X.length) htk2
            rw [List.take_take, ← hZ] at h3
            rw [Nat.min_eq_left (by simp)] at h3
            rw [h3, List.append_assoc]
            exact List.take_left
    · refine h.keep fun i hi hlt => hg.block i hlt (fun e => hs ⟨i, hi, e.symm⟩)
  · exact h.keep fun i hi hlt => hg.block i hlt (fun e => by cases e)

theorem LsOwn.ext {w w' : World} {B cl N : Nat} {L : Option Addr} {A : Nat → Option Addr} {n c : Nat → Nat} (h : LsOwn w B L cl N A n c) (he : Ext w w') : LsOwn w' B L cl N A n c := Own.ext h he
theorem Rows_.ext {w w' : World} {B N : Nat} {A : Nat → Option Addr} {c : Nat → Nat} {X : Nat → List Int} (h : Rows_ w B N A c X) (he : Ext w w') : Rows_ w' B N A c X := fun k hk => (h k hk).ext he

/-- The rows, marked; the row of grown rows, of which the first k are told. -/
def Gr (B : Nat) (L : Option Addr) (cl N : Nat) (A : Nat → Option Addr) (n c : Nat → Nat) (gg : Nat) (w0 : World) (V : Nat → Value) (E : Nat → List Int) (A' : Nat → Option Addr) (c' : Nat → Nat) (k : Nat) (w : World) : Prop :=
  LsOwn w B L cl N A n c ∧ Rows_ w B N A c (fun k => mk k (n k)) ∧ Fr (RB N A) w0 w ∧ Own w B 32 (some ⟨gg, 0, none⟩) N ((List.range N).map V) ∧ (∀ j, j < k → Own w B 5 (A' j) (c' j) (bys (mk j (n j) ++ E j)))
def GrA (N : Nat) (A : Nat → Option Addr) (n : Nat → Nat) (s0 sk : Nat) (V : Nat → Value) (A' : Nat → Option Addr) (c' : Nat → Nat) (k : Nat) : Prop :=
  (∀ j, j < N → ∀ i, blk (A j) i → i < s0) ∧ s0 ≤ sk ∧ (∀ j, j < k → V j = .slice (A' j) (n j + 64) (c' j)) ∧ (∀ j, j < k → ∀ i, blk (A' j) i → (blk (A j) i ∨ s0 ≤ i) ∧ i < sk)

section
variable {B cl N gg s0 sk k : Nat} {L : Option Addr} {A A' : Nat → Option Addr} {n c c' : Nat → Nat} {w0 w w2 : World} {V : Nat → Value} {E : Nat → List Int}
theorem Gr.ext (h : Gr B L cl N A n c gg w0 V E A' c' k w) (he : Ext w w2) : Gr B L cl N A n c gg w0 V E A' c' k w2 :=
  ⟨h.1.ext he, h.2.1.ext he, h.2.2.1.then he, h.2.2.2.1.ext he, fun j hj => (h.2.2.2.2 j hj).ext he⟩
theorem GrA.mono (h : GrA N A n s0 sk V A' c' k) {sk' : Nat} (hs : sk ≤ sk') : GrA N A n s0 sk' V A' c' k :=
  ⟨h.1, Nat.le_trans h.2.1 hs, h.2.2.1, fun j hj i hi => ⟨(h.2.2.2 j hj i hi).1, Nat.lt_of_lt_of_le (h.2.2.2 j hj i hi).2 hs⟩⟩

theorem grow_step {A'' A2 : Option Addr} {c'' c2 : Nat} {X'' Y : List Value} (hG : Gr B L cl N A n c gg w0 V E A' c' k w) (hA : GrA N A n s0 sk V A' c' k) (hk : k < N) (hd : Dis N A)
    (h'' : Own w B 5 A'' c'' X'') (hp : bys (mk k (n k)) <+: X'') (hb : ∀ i, blk A'' i → blk (A k) i ∨ sk ≤ i) (hw0 : w0.heap.size ≤ sk) (hsk : sk ≤ w.heap.size)
    (h2 : Own w2 B 5 A2 c2 (X'' ++ Y)) (hg : (A2 = A'' ∧ c2 = c'' ∧ w.grownBy w2 (A''.map Addr.block)) ∨ (A2 = some ⟨w.heap.size, 0, none⟩ ∧ w.grownBy w2 none)) :
    Gr B L cl N A n c gg w0 V E A' c' k w2 ∧ (∀ i, blk A2 i → blk (A k) i ∨ sk ≤ i) ∧ w.heap.size ≤ w2.heap.size := by
  obtain ⟨hL, hR, hF, hV, hO⟩ := hG
  obtain ⟨a1, a2, a3, a4⟩ := hA
  have hFr : Fr (blk A'') w w2 := by
    rcases hg with ⟨_, _, hg⟩ | ⟨_, hg⟩
    · exact Fr.ofGrown hg (fun g hg => hg)
    · exact Fr.ofGrown hg (fun g hg => by cases hg)
  have hA2 : ∀ i, blk A2 i → blk (A k) i ∨ sk ≤ i := by
    rcases hg with ⟨rfl, _, hg⟩ | ⟨rfl, hg⟩
    · exact hb
    · intro i hi; simp [blk] at hi; exact .inr (by omega)
  refine ⟨⟨hL.fr hFr (fun i hi h => Own.ne h'' hL (by decide) h hi), fun j hj => ?_, hF.trans hFr (fun i hi h => ?_), hV.fr hFr (fun i hi h => Own.ne h'' hV (by decide) h hi), fun j hj => ?_⟩, hA2, hFr.size⟩
  · by_cases hjk : j = k
    · subst hjk
      exact pair_append (hR j hj) h'' hp h2 hg
    · refine (hR j hj).fr hFr (fun i hi h => ?_)
      rcases hb i h with h | h
      · exact hd k j hk hj (fun e => hjk e.symm) i h hi
      · have := a1 j hj i hi; omega
  · rcases hb i h with h | h
    · exact ⟨k, hk, h⟩
    · omega
  · refine (hO j hj).fr hFr (fun i hi h => ?_)
    obtain ⟨q1, q2⟩ := a4 j hj i hi
    rcases hb i h with h | h
    · have h3 := a1 k hk i h
      rcases q1 with q1 | q1
      · exact hd k j hk (by omega) (by omega) i h q1
      · omega
    · omega

theorem gs_store {A2 : Option Addr} {c2 m : Nat} (hG : Gr B L cl N A n c gg w0 V E A' c' k w) (hA : GrA N A n s0 sk V A' c' k) (hk : k < N) (h2 : Own w B 5 A2 c2 (bys (mk k (n k) ++ E k))) (hb : ∀ i, blk A2 i → blk (A k) i ∨ sk ≤ i)
    (hm : m = n k + 64) (hgl : ¬ blk L gg) (hw0 : w0.heap.size ≤ gg) (hsk : sk ≤ w.heap.size) :
    Gr B L cl N A n c gg w0 (upd V k (.slice A2 m c2)) E (upd A' k A2) (upd c' k c2) (k + 1) (w.setCell ⟨gg, k, none⟩ (.slice A2 m c2)) ∧ GrA N A n s0 w.heap.size (upd V k (.slice A2 m c2)) (upd A' k A2) (upd c' k c2) (k + 1) := by
  obtain ⟨hL, hR, hF, hV, hO⟩ := hG
  obtain ⟨a1, a2, a3, a4⟩ := hA
  have hFr : Fr (fun j => j = gg) w (w.setCell ⟨gg, k, none⟩ (.slice A2 m c2)) := (Fr.refl (fun j => j = gg) w).set (p := ⟨gg, k, none⟩) (.inl rfl) _
  have off : ∀ {D : Option Addr} {d : Nat} {xs : List Value}, Own w B 5 D d xs → ∀ i, blk D i → ¬ i = gg := fun h i hi e => by subst e; exact Own.ne h hV (by decide) hi rfl
  refine ⟨⟨?_, fun j hj => (hR j hj).fr hFr (off (hR j hj)), hF.set (p := ⟨gg, k, none⟩) (.inr hw0) _, ?_, fun j hj => ?_⟩, a1, Nat.le_trans a2 hsk, fun j hj => ?_, fun j hj i hi => ?_⟩
  · exact hL.fr hFr (fun i hi e => hgl (by subst e; exact hi))
  · refine Own.cong (hV.set k (.slice A2 m c2)) ?_
    apply List.ext_getElem?
    intro j
    rw [List.getElem?_set]
    by_cases hj : j < N
    · by_cases hjk : k = j
      · subst hjk; simp [upd_same, hk]
      · simp [hjk, hj, upd_ne V k _ (fun e => hjk e.symm)]
    · simp [hj]; intro e; omega
  · by_cases hjk : j = k
    · subst hjk; rw [upd_same, upd_same]; exact h2.fr hFr (off h2)
    · rw [upd_ne _ _ _ hjk, upd_ne _ _ _ hjk]
      have h3 := hO j (by omega)
      exact h3.fr hFr (off h3)
  · by_cases hjk : j = k
    · subst hjk; rw [upd_same, upd_same, upd_same, hm]
    · rw [upd_ne _ _ _ hjk, upd_ne _ _ _ hjk, upd_ne _ _ _ hjk]; exact a3 j (by omega)
  · by_cases hjk : j = k
    · subst hjk
      rw [upd_same] at hi
      refine ⟨(hb i hi).elim .inl (fun h => .inr (by omega)), (h2.lt hi).2⟩
    · rw [upd_ne _ _ _ hjk] at hi
      obtain ⟨q1, q2⟩ := a4 j (by omega) i hi
      exact ⟨q1, by omega⟩
end

theorem markByte_add (k a i : Nat) (w : World) (hk : k ≤ 1000000) (hi : a + i ≤ 1000000000000) :
    Calls Tryz.prog 55 #[.int .i64 k, .int .i64 ((a : Int) + (i : Int))] w fun e w' => e = .returned (.int .u8 (markB k (a + i))) ∧ w = w' := by
  have h := markByte_any k (a + i) w hk hi
  rw [Int.natCast_add] at h
  exact h
theorem markByte_addk (k a i : Nat) (w : World) (hk : k + a ≤ 1000000) (hi : i ≤ 1000000000000) :
    Calls Tryz.prog 55 #[.int .i64 ((k : Int) + (a : Int)), .int .i64 i] w fun e w' => e = .returned (.int .u8 (markB (k + a) i)) ∧ w = w' := by
  have h := markByte_any (k + a) i w hk hi
  rw [Int.natCast_add] at h
  exact h

theorem appendBytes2 {ops : Array Oper} {rest : List Oper} {o : Oper} {a : Act} {Q : Exit → Act → World → Prop} (w : World) (hgd : o.guard = none) (s x : Operand)
    (ho : o.op = .call { callee := .builtin .append, args := #[s, x], argTypes := #[32, 32] })
    (B : Nat) (A : Option Addr) (n c : Nat) (xs : List Int) (hs : a.eval s = .slice A n c) (hn : n = xs.length) (hown : Own w B 5 A c (bys xs))
    (D : Option Addr) (m cc : Nat) (news : List Int) (hx : a.eval x = .slice D m cc) (hm : m = news.length) (hr : Rd w D (bys news))
    (h63 : xs.length + news.length ≤ 10000000000000) (hbase : B ≤ w.heap.size)
    (h : ∀ A' c' m' w', m' = (xs ++ news).length → Own w' B 5 A' c' (bys xs ++ bys news) → ((A' = A ∧ c' = c ∧ w.grownBy w' (A.map Addr.block)) ∨ (A' = some ⟨w.heap.size, 0, none⟩ ∧ w.grownBy w' none)) → wpList Tryz.prog ops Q rest (a.put o.dst (.slice A' m' c')) w') : wpList Tryz.prog ops Q (o :: rest) a w := by
  obtain ⟨i0, hi, hz0, hz1, hz2⟩ := info_parts Tryz.infoEBytes
  refine wpList_append_rd2 w hgd s x 32 ho 5 i0 _ 1 Tryz.underlying32 hi hz0 hz1 hz2 rfl B A n c (bys xs) hs (by simpa [bys] using hn) hown D m cc (bys news) hx (by simpa [bys] using hm) hr (one_int .u8 news) (by unfold maxLen; simp [bys]; omega) (by simp [bys]; omega) hbase ?_
  intro A' c' w' h1 h2
  exact h A' c' _ w' (by simp [bys]) h1 h2
theorem bys_app (a b : List Int) : bys (a ++ b) = bys a ++ bys b := by simp [bys]
theorem mk_add (k a b : Nat) : mk k (a + b) = mk k a ++ (List.range b).map (fun t => markB k (a + t)) := by
  induction b with
  | zero => simp
  | succ b ih => rw [← Nat.add_assoc, mk_succ, ih, List.range_succ, List.map_append, List.append_assoc]; rfl
theorem mk_pre (k a b : Nat) : bys (mk k a) <+: bys (mk k (a + b)) := by rw [mk_add, bys_app]; exact List.prefix_append _ _

/-- Of k rows what has grown is told. -/
def Fl2 (B : Nat) (L : Option Addr) (cl N : Nat) (A : Nat → Option Addr) (n c : Nat → Nat) (gg s0 : Nat) (w0 : World) (E : Nat → List Int) (k : Nat) (w : World) : Prop :=
  ∃ (V : Nat → Value) (A' : Nat → Option Addr) (c' : Nat → Nat) (sk : Nat), Gr B L cl N A n c gg w0 V E A' c' k w ∧ GrA N A n s0 sk V A' c' k ∧ sk ≤ w.heap.size
def E2 (n : Nat → Nat) (j : Nat) : List Int := (List.range 64).map (fun t => markB j (n j + t))
def E4 (N : Nat) (j : Nat) : List Int := mk (j + N) 64

theorem own_nils (w : World) (B N : Nat) (hB : B ≤ w.heap.size) (hN : N ≤ 100000) : Own (w.alloc (.cells (madeCells #[.slice none 0 0] N) 32)) B 32 (some ⟨w.heap.size, 0, none⟩) N ((List.range N).map fun _ => .slice none 0 0) := by
  refine Own.mk hB (heap_alloc_new w _) (by simp) (by unfold maxLen; omega) (size_madeCells _ _) ?_
  rw [toList_madeCells_one]
  simp [List.map_const']
theorem Fl2.start {B cl N : Nat} {L : Option Addr} {A : Nat → Option Addr} {n c : Nat → Nat} {w0 w : World} {E : Nat → List Int} (hL : LsOwn w B L cl N A n c) (hR : Rows_ w B N A c (fun k => mk k (n k))) (hF : Fr (RB N A) w0 w) (hB : B ≤ w.heap.size) (hN : N ≤ 100000) :
    Fl2 B L cl N A n c w.heap.size (w.heap.size + 1) w0 E 0 (w.alloc (.cells (madeCells #[.slice none 0 0] N) 32)) :=
  have he := (Ext.refl w).alloc (.cells (madeCells #[.slice none 0 0] N) 32)
  ⟨fun _ => .slice none 0 0, fun _ => none, fun _ => 0, w.heap.size + 1, ⟨hL.ext he, hR.ext he, hF.then he, own_nils w B N hB hN, fun j hj => by omega⟩,
    ⟨fun j hj i hi => by have := ((hR j hj).lt hi).2; omega, Nat.le_refl _, fun j hj => by omega, fun j hj => by omega⟩, by simp⟩
def FlRel3 (B : Nat) (L : Option Addr) (cl N : Nat) (A : Nat → Option Addr) (n c : Nat → Nat) (gg s0 : Nat) (w0 : World) (E : Nat → List Int) (v : Value) (w : World) : Prop :=
  ∃ k : Nat, k ≤ N ∧ v = .int .i64 k ∧ Fl2 B L cl N A n c gg s0 w0 E k w
def FlRel4 (B : Nat) (L : Option Addr) (cl N : Nat) (A : Nat → Option Addr) (n c : Nat → Nat) (gg : Nat) (w0 : World) (V : Nat → Value) (E : Nat → List Int) (A' : Nat → Option Addr) (c' : Nat → Nat) (k sk : Nat) (v i : Value) (w : World) : Prop :=
  ∃ (t m : Nat) (A2 : Option Addr) (c2 : Nat), t ≤ 64 ∧ i = .int .i64 t ∧ v = .slice A2 m c2 ∧ m = n k + t ∧ Gr B L cl N A n c gg w0 V E A' c' k w ∧ Own w B 5 A2 c2 (bys (mk k (n k + t))) ∧ (∀ i, blk A2 i → blk (A k) i ∨ sk ≤ i) ∧ sk ≤ w.heap.size

def FlRel5 (B : Nat) (L : Option Addr) (cl N : Nat) (A : Nat → Option Addr) (n c : Nat → Nat) (gg s0 : Nat) (w0 : World) (E : Nat → List Int) (v : Value) (w : World) : Prop :=
  ∃ k : Nat, k ≤ N ∧ v = .int .i64 k ∧ Fl2 B L cl N A n c gg s0 w0 E N w
def FlRel6 (B : Nat) (L : Option Addr) (cl N : Nat) (A : Nat → Option Addr) (n c : Nat → Nat) (gg : Nat) (w0 : World) (V : Nat → Value) (E : Nat → List Int) (A' : Nat → Option Addr) (c' : Nat → Nat) (sk mx : Nat) (v : Value) (w : World) : Prop :=
  ∃ t : Nat, t ≤ mx ∧ v = .int .i64 t ∧ Gr B L cl N A n c gg w0 V E A' c' N w ∧ sk ≤ w.heap.size
theorem Fl2.again {B cl N gg s0 : Nat} {L : Option Addr} {A : Nat → Option Addr} {n c : Nat → Nat} {w0 w : World} {E E' : Nat → List Int} {k : Nat} (h : Fl2 B L cl N A n c gg s0 w0 E k w) : Fl2 B L cl N A n c gg s0 w0 E' 0 w := by
  obtain ⟨V, A', c', sk, hG, hA, hs⟩ := h
  exact ⟨V, A', c', sk, ⟨hG.1, hG.2.1, hG.2.2.1, hG.2.2.2.1, fun j hj => by omega⟩, ⟨hA.1, hA.2.1, fun j hj => by omega, fun j hj => by omega⟩, hs⟩
/-- A store into a new row. -/
theorem Gr.setNew {B cl N gg s0 sk k : Nat} {L : Option Addr} {A A' : Nat → Option Addr} {n c c' : Nat → Nat} {w0 w : World} {V : Nat → Value} {E : Nat → List Int} {gm cm : Nat} {xs : List Value} (hG : Gr B L cl N A n c gg w0 V E A' c' k w) (hA : GrA N A n s0 sk V A' c' k)
    (hm : Own w B 5 (some ⟨gm, 0, none⟩) cm xs) (hgm : sk ≤ gm) (hw0 : w0.heap.size ≤ gm) (i : Nat) (u : Value) : Gr B L cl N A n c gg w0 V E A' c' k (w.setCell ⟨gm, i, none⟩ u) := by
  have hFr : Fr (fun j => j = gm) w (w.setCell ⟨gm, i, none⟩ u) := (Fr.refl (fun j => j = gm) w).set (p := ⟨gm, i, none⟩) (.inl rfl) _
  obtain ⟨hL, hR, hF, hV, hO⟩ := hG
  obtain ⟨a1, a2, a3, a4⟩ := hA
  refine ⟨hL.fr hFr (fun i hi e => by subst e; exact Own.ne hm hL (by decide) rfl hi), fun j hj => (hR j hj).fr hFr (fun i hi e => by have := a1 j hj i hi; omega), hF.set (p := ⟨gm, i, none⟩) (.inr hw0) _, hV.fr hFr (fun i hi e => by subst e; exact Own.ne hm hV (by decide) rfl hi), fun j hj => (hO j hj).fr hFr (fun i hi e => by have := (a4 j hj i hi).2; omega)⟩
def FlRel8 (B : Nat) (L : Option Addr) (cl N : Nat) (A : Nat → Option Addr) (n c : Nat → Nat) (gg : Nat) (w0 : World) (V : Nat → Value) (E : Nat → List Int) (A' : Nat → Option Addr) (c' : Nat → Nat) (k sk gm : Nat) (v : Value) (w : World) : Prop :=
  ∃ (t : Nat) (Y : List Int), t ≤ 64 ∧ v = .int .i64 t ∧ Y.length = 64 ∧ Y.take t = mk (k + N) t ∧ Gr B L cl N A n c gg w0 V E A' c' k w ∧ Own w B 5 (some ⟨gm, 0, none⟩) 64 (bys Y) ∧ sk + 1 ≤ w.heap.size
theorem mk64 (w : World) : (Instr.makeSlice 32 (.int .i64 64) (.int .i64 64)).run Tryz.prog w = .ok (.slice (some ⟨w.heap.size, 0, none⟩) 64 64) (w.alloc (.cells (madeCells #[.int .u8 0] 64) 5)) := by
  obtain ⟨i0, hi, hz0, hz1, hz2⟩ := info_parts Tryz.infoEBytes
  exact run_mk0 (P := Tryz.prog) 32 5 i0 _ Tryz.underlying32 hi hz0 hz1 64 64 (64 : Int) rfl (Nat.le_refl _) (by omega) (by omega) w
theorem own_64 (w : World) (B : Nat) (hB : B ≤ w.heap.size) : Own (w.alloc (.cells (madeCells #[.int .u8 0] 64) 5)) B 5 (some ⟨w.heap.size, 0, none⟩) 64 (bys (List.replicate 64 0)) := by
  refine Own.mk hB (heap_alloc_new w _) (by simp [bys]) (by unfold maxLen; omega) (size_madeCells _ _) ?_
  rw [toList_madeCells_one]
  simp [bys]
theorem set_take' {l : List Int} {i : Nat} (hi : i < l.length) (m : Int) : (l.set i m).take (i + 1) = l.take i ++ [m] := by
  rw [List.take_succ_eq_append_getElem (by simpa using hi), List.take_set_of_le (Nat.le_refl _)]
  simp
end Go.Proofs.YtcapapnhlkmeaaaGreatDoor
