/-
  Memory of the verifier's flat..: rows of any width that lie apart, marked and grown.
-/
import Derived.Test.YtjnllilmimngoaaGreatDoorM17
namespace Go.Proofs.YtjnllilmimngoaaGreatDoor
open Go.RowKit

def rowU (A : Nat → Option Addr) (n c : Nat → Nat) (k : Nat) : Value := .slice (A k) (n k) (c k)
/-- The row of rows. -/
def LsW (st : TypeId) (w : World) (B : Nat) (L : Option Addr) (cl N : Nat) (A : Nat → Option Addr) (n c : Nat → Nat) : Prop := Own w B st L cl ((List.range N).map (rowU A n c))
def RowsW (sz : Nat) (e : TypeId) (w : World) (B N : Nat) (A : Nat → Option Addr) (n c : Nat → Nat) (X : Nat → List Value) : Prop := ∀ k, k < N → OwnW sz w B e (A k) (n k) (c k) (X k)
def Dis (N : Nat) (A : Nat → Option Addr) : Prop := ∀ k j, k < N → j < N → k ≠ j → ∀ i, blk (A k) i → ¬ blk (A j) i
def RB (N : Nat) (A : Nat → Option Addr) : Nat → Prop := fun i => ∃ k, k < N ∧ blk (A k) i
def upd {α : Type} (f : Nat → α) (k : Nat) (v : α) : Nat → α := fun j => if j = k then v else f j
theorem upd_same {α : Type} (f : Nat → α) (k : Nat) (v : α) : upd f k v k = v := by simp [upd]
theorem upd_ne {α : Type} (f : Nat → α) (k : Nat) (v : α) {j : Nat} (h : j ≠ k) : upd f k v j = f j := by simp [upd, h]

/-- What n marks are, one behind the other. -/
def mkF (mc : Nat → Nat → List Value) (k n : Nat) : List Value := (List.range n).flatMap (mc k)
section marks
variable {mc : Nat → Nat → List Value} {sz : Nat}
theorem mkF_succ (k n : Nat) : mkF mc k (n + 1) = mkF mc k n ++ mc k n := by simp [mkF, List.range_succ]
theorem mkF_len (hm : ∀ k i, (mc k i).length = sz) (k n : Nat) : (mkF mc k n).length = n * sz := by
  induction n with
  | zero => simp [mkF]
  | succ n ih => rw [mkF_succ, List.length_append, ih, hm, Nat.succ_mul]
theorem mkF_get (hm : ∀ k i, (mc k i).length = sz) {k i n j : Nat} {u : Value} (hi : i < n) (hj : (mc k i)[j]? = some u) : (mkF mc k n)[i * sz + j]? = some u := by
  induction n with
  | zero => omega
  | succ n ih =>
    have hjl := (List.getElem?_eq_some_iff.1 hj).1
    rw [hm] at hjl
    rw [mkF_succ]
    by_cases h : i < n
    · have h1 : (i + 1) * sz ≤ n * sz := Nat.mul_le_mul_right _ h
      rw [Nat.succ_mul] at h1
      rw [List.getElem?_append_left (by rw [mkF_len hm]; omega)]
      exact ih h
    · obtain rfl : i = n := by omega
      rw [List.getElem?_append_right (by rw [mkF_len hm]; omega), mkF_len hm, show i * sz + j - i * sz = j by omega]
      exact hj
theorem mkF_add (k a b : Nat) : mkF mc k (a + b) = mkF mc k a ++ (List.range b).flatMap (fun t => mc k (a + t)) := by
  induction b with
  | zero => simp
  | succ b ih => rw [← Nat.add_assoc, mkF_succ, ih, List.range_succ, List.flatMap_append, List.append_assoc]; simp
theorem mkF_pre (k a b : Nat) : mkF mc k a <+: mkF mc k (a + b) := by rw [mkF_add]; exact List.prefix_append _ _
end marks

theorem own_cong {w : World} {B : Nat} {e : TypeId} {A : Option Addr} {c : Nat} {xs ys : List Value} (h : Own w B e A c xs) (hx : xs = ys) : Own w B e A c ys := hx ▸ h
theorem Own.w {w : World} {B : Nat} {e : TypeId} {A : Option Addr} {c : Nat} {xs : List Value} (h : Own w B e A c xs) : OwnW 1 w B e A xs.length c xs := h
theorem LsW.cell {st : TypeId} {w : World} {B cl N : Nat} {L : Option Addr} {A : Nat → Option Addr} {n c : Nat → Nat} (h : LsW st w B L cl N A n c) {k : Nat} (hk : k < N) :
    ∃ gl, L = some ⟨gl, 0, none⟩ ∧ w.cell? ⟨gl, k, none⟩ = some (.slice (A k) (n k) (c k)) := by
  obtain ⟨gl, rfl⟩ := Own.some_ h (by simp; omega)
  exact ⟨gl, rfl, Rd.at0 (Own.rd h) (by simp [hk, rowU])⟩
theorem LsW.ext {st : TypeId} {w w' : World} {B cl N : Nat} {L : Option Addr} {A : Nat → Option Addr} {n c : Nat → Nat} (h : LsW st w B L cl N A n c) (he : Ext w w') : LsW st w' B L cl N A n c := Own.ext h he
theorem RowsW.ext {sz : Nat} {e : TypeId} {w w' : World} {B N : Nat} {A : Nat → Option Addr} {n c : Nat → Nat} {X : Nat → List Value} (h : RowsW sz e w B N A n c X) (he : Ext w w') : RowsW sz e w' B N A n c X := fun k hk => (h k hk).ext he
theorem RowsW.cong {sz : Nat} {e : TypeId} {w : World} {B N : Nat} {A : Nat → Option Addr} {n c : Nat → Nat} {X Y : Nat → List Value} (h : RowsW sz e w B N A n c X) (he : ∀ j, j < N → X j = Y j) : RowsW sz e w B N A n c Y := fun j hj => by rw [← he j hj]; exact h j hj

/-- A store of one element. -/
def Stored (sz : Nat) (g i : Nat) (cs : List Value) (w w' : World) : Prop :=
  Fr (isB g) w w' ∧ ∀ (cur : Array Value) (e : TypeId), w.heap[g]? = some (.cells cur e (0, 0)) → (i + 1) * sz ≤ cur.size → w'.heap[g]? = some (.cells (cur.toList.take (i * sz) ++ cs ++ cur.toList.drop ((i + 1) * sz)).toArray e (0, 0))
theorem Stored.one {w : World} {g i : Nat} (u : Value) : Stored 1 g i [u] w (w.setCell ⟨g, i, none⟩ u) := by
  refine ⟨(Fr.refl (isB g) w).set (p := ⟨g, i, none⟩) (.inl rfl) _, fun cur e h hs => ?_⟩
  rw [heap_set h]
  have h1 : cur.setIfInBounds i u = (cur.toList.take (i * 1) ++ [u] ++ cur.toList.drop ((i + 1) * 1)).toArray := by
    apply Array.toList_inj.1
    rw [Array.toList_setIfInBounds, Nat.mul_one, Nat.mul_one, List.set_eq_take_append_cons_drop, if_pos (by simp at hs ⊢; omega)]
    simp
  rw [h1]
theorem take_store {xs cs : List Value} {a b n : Nat} (hab : b = a + cs.length) (hb : b ≤ n) (cur : List Value) (hx : cur.take n = xs) (hn : n ≤ cur.length) : (cur.take a ++ cs ++ cur.drop b).take n = xs.take a ++ cs ++ xs.drop b := by
  subst hx
  rw [List.take_append, List.take_append]
  have h1 : (cur.take a).length = a := by rw [List.length_take]; omega
  rw [h1, List.take_take, List.take_take, Nat.min_eq_right (by omega), Nat.min_eq_left (by omega), List.take_of_length_le (by omega : cs.length ≤ n - a), List.drop_take]
  congr 2
  simp only [List.length_append, h1]
  omega
theorem OwnW.stored {sz : Nat} {w w' : World} {B : Nat} {e : TypeId} {g n c i : Nat} {xs cs : List Value} (h : OwnW sz w B e (some ⟨g, 0, none⟩) n c xs) (hs : Stored sz g i cs w w') (hi : i < n) (hc : cs.length = sz) :
    OwnW sz w' B e (some ⟨g, 0, none⟩) n c (xs.take (i * sz) ++ cs ++ xs.drop ((i + 1) * sz)) := by
  rcases h.cases with ⟨h0, _⟩ | ⟨g', cur, hg', hB, hg, hh, h1, h2, h3, h4⟩
  · cases h0
  · injection hg' with hg'; injection hg' with hg'; subst hg'
    have h5 : (i + 1) * sz ≤ n * sz := Nat.mul_le_mul_right _ hi
    have h6 : n * sz ≤ c * sz := Nat.mul_le_mul_right _ h1
    have h7 : (i + 1) * sz = i * sz + cs.length := by rw [hc, Nat.succ_mul]
    refine OwnW.mk hB (hs.2 cur e hh (by omega)) h1 h2 ?_ ?_
    · simp only [List.size_toArray, List.length_append, List.length_take, List.length_drop, Array.length_toList]
      omega
    · simp only
      exact take_store h7 h5 _ h4 (by rw [Array.length_toList]; omega)
theorem mark_next {xs : List Value} {mc : Nat → Nat → List Value} {sz k i n : Nat} (hm : ∀ k i, (mc k i).length = sz) (hx : xs.length = n * sz) (hi : i < n) (ht : xs.take (i * sz) = mkF mc k i) :
    (xs.take (i * sz) ++ mc k i ++ xs.drop ((i + 1) * sz)).length = n * sz ∧ (xs.take (i * sz) ++ mc k i ++ xs.drop ((i + 1) * sz)).take ((i + 1) * sz) = mkF mc k (i + 1) := by
  have h1 : (i + 1) * sz ≤ n * sz := Nat.mul_le_mul_right _ hi
  have h2 : (i + 1) * sz = i * sz + sz := Nat.succ_mul _ _
  constructor
  · simp only [List.length_append, List.length_take, List.length_drop, hm]
    omega
  · rw [ht, ← mkF_succ]
    rw [List.take_append_of_le_length (by rw [mkF_len hm]; omega), List.take_of_length_le (by rw [mkF_len hm]; omega)]

/-- A store of a mark into one row. -/
theorem mark_stepW {sz : Nat} {e st : TypeId} {w w1 w2 : World} {B cl N : Nat} {L : Option Addr} {A : Nat → Option Addr} {n c : Nat → Nat} {X : Nat → List Value} {k g i : Nat} {cs : List Value} (hne : e ≠ st) (hL : LsW st w B L cl N A n c) (hR : RowsW sz e w B N A n c X) (hd : Dis N A)
    (hk : k < N) (hA : A k = some ⟨g, 0, none⟩) (hE : Ext w w1) (hs : Stored sz g i cs w1 w2) (hi : i < n k) (hc : cs.length = sz) :
    LsW st w2 B L cl N A n c ∧ RowsW sz e w2 B N A n c (upd X k ((X k).take (i * sz) ++ cs ++ (X k).drop ((i + 1) * sz))) ∧ Fr (RB N A) w w2 := by
  have hg : blk (A k) g := by rw [hA]; rfl
  have hF : Fr (isB g) w w2 := (Fr.ofExt (isB g) hE).trans hs.1 (fun _ _ t => t)
  refine ⟨Own.fr hL hF (fun j hj t => ?_), fun j hj => ?_, hF.mono (fun j _ t => ⟨k, hk, by rw [show j = g from t]; exact hg⟩)⟩
  · obtain rfl : j = g := t
    exact OwnW.ne (hR k hk) (Own.w hL) hne hg hj
  · by_cases hjk : j = k
    · subst hjk
      rw [upd_same]
      have h1 := (hR j hj).ext hE
      rw [hA] at h1 ⊢
      exact h1.stored hs hi hc
    · rw [upd_ne _ _ _ hjk]
      exact (hR j hj).fr hF (fun i' hi' t => by obtain rfl : i' = g := t; exact hd k j hk hj (fun h => hjk h.symm) i' hg hi')

/-- Of a row that grew out of another one: both read on. -/
theorem pair_appendW {sz : Nat} {w w2 : World} {B : Nat} {e : TypeId} {A A' A2 : Option Addr} {n n' n2 c c' c2 : Nat} {X X' Y : List Value} (h : OwnW sz w B e A n c X) (h' : OwnW sz w B e A' n' c' X') (hp : X <+: X')
    (h2 : OwnW sz w2 B e A2 n2 c2 (X' ++ Y)) (hF : Fr (blk A') w w2) (hg : (A2 = A' ∧ c2 = c') ∨ Ext w w2) : OwnW sz w2 B e A n c X := by
  rcases hg with ⟨rfl, hcc⟩ | hg
  · by_cases hs : ∃ i, blk A i ∧ blk A2 i
    · obtain ⟨i, h1, h2i⟩ := hs
      rcases h.cases with ⟨rfl, _⟩ | ⟨g, cur, rfl, hB, hlt, hh, hle, hm, hsz, htk⟩
      · simp [blk] at h1
      · rcases h'.cases with ⟨rfl, _⟩ | ⟨g', cur', rfl, hB', hlt', hh', hle', hm', hsz', htk'⟩
        · simp [blk] at h2i
        · simp [blk] at h1 h2i
          obtain rfl : g = g' := by omega
          rw [hh] at hh'
          injection hh' with hh'
          injection hh' with hcur _ _
          subst hcur
          rcases h2.cases with ⟨h0, _⟩ | ⟨g2, cur2, he, hB2, hlt2, hh2, hle2, hm2, hsz2, htk2⟩
          · cases h0
          · injection he with he
            injection he with he
            subst he
            obtain ⟨Z, hZ⟩ := hp
            have hl2 := h2.len
            have hl := h.len
            rw [← hZ] at hl2
            simp only [List.length_append] at hl2
            have hcs : cur2.size = c * sz := by rw [hsz2, hcc, ← hsz', hsz]
            refine OwnW.mk hB hh2 hle hm hcs ?_
            have h3 := congrArg (List.take (n * sz)) htk2
            rw [List.take_take, ← hZ, Nat.min_eq_left (by omega)] at h3
            rw [h3, List.append_assoc, ← hl]
            exact List.take_left
    · exact h.fr hF fun i hi t => hs ⟨i, hi, t⟩
  · exact h.ext hg

section
variable (sz : Nat) (e st : TypeId) (mc : Nat → Nat → List Value)
/-- The rows, marked; the row of grown rows, of which the first k are told. -/
def GrW (B : Nat) (L : Option Addr) (cl N : Nat) (A : Nat → Option Addr) (n c : Nat → Nat) (gg : Nat) (w0 : World) (V : Nat → Value) (E : Nat → List Value) (A' : Nat → Option Addr) (c' : Nat → Nat) (k : Nat) (w : World) : Prop :=
  LsW st w B L cl N A n c ∧ RowsW sz e w B N A n c (fun k => mkF mc k (n k)) ∧ Fr (RB N A) w0 w ∧ Own w B st (some ⟨gg, 0, none⟩) N ((List.range N).map V) ∧ (∀ j, j < k → OwnW sz w B e (A' j) (n j + 64) (c' j) (mkF mc j (n j) ++ E j))
end
def GrA (N : Nat) (A : Nat → Option Addr) (n : Nat → Nat) (s0 sk : Nat) (V : Nat → Value) (A' : Nat → Option Addr) (c' : Nat → Nat) (k : Nat) : Prop :=
  (∀ j, j < N → ∀ i, blk (A j) i → i < s0) ∧ s0 ≤ sk ∧ (∀ j, j < k → V j = .slice (A' j) (n j + 64) (c' j)) ∧ (∀ j, j < k → ∀ i, blk (A' j) i → (blk (A j) i ∨ s0 ≤ i) ∧ i < sk)

section
variable {sz : Nat} {e st : TypeId} {mc : Nat → Nat → List Value} {B cl N gg s0 sk k : Nat} {L : Option Addr} {A A' : Nat → Option Addr} {n c c' : Nat → Nat} {w0 w w2 : World} {V : Nat → Value} {E : Nat → List Value}
theorem GrW.ext (h : GrW sz e st mc B L cl N A n c gg w0 V E A' c' k w) (he : Ext w w2) : GrW sz e st mc B L cl N A n c gg w0 V E A' c' k w2 :=
  ⟨h.1.ext he, h.2.1.ext he, h.2.2.1.then he, h.2.2.2.1.ext he, fun j hj => (h.2.2.2.2 j hj).ext he⟩
theorem GrA.mono (h : GrA N A n s0 sk V A' c' k) {sk' : Nat} (hs : sk ≤ sk') : GrA N A n s0 sk' V A' c' k :=
  ⟨h.1, Nat.le_trans h.2.1 hs, h.2.2.1, fun j hj i hi => ⟨(h.2.2.2 j hj i hi).1, Nat.lt_of_lt_of_le (h.2.2.2 j hj i hi).2 hs⟩⟩

theorem grow_stepW {A'' A2 : Option Addr} {n'' n2 c'' c2 : Nat} {X'' Y : List Value} (hne : e ≠ st) (hG : GrW sz e st mc B L cl N A n c gg w0 V E A' c' k w) (hA : GrA N A n s0 sk V A' c' k) (hk : k < N) (hd : Dis N A)
    (h'' : OwnW sz w B e A'' n'' c'' X'') (hp : mkF mc k (n k) <+: X'') (hb : ∀ i, blk A'' i → blk (A k) i ∨ sk ≤ i) (hw0 : w0.heap.size ≤ sk) (hsk : sk ≤ w.heap.size)
    (h2 : OwnW sz w2 B e A2 n2 c2 (X'' ++ Y)) (hFr : Fr (blk A'') w w2) (hA2' : ∀ i, blk A2 i → blk A'' i ∨ w.heap.size ≤ i) (hg : (A2 = A'' ∧ c2 = c'') ∨ Ext w w2) :
    GrW sz e st mc B L cl N A n c gg w0 V E A' c' k w2 ∧ (∀ i, blk A2 i → blk (A k) i ∨ sk ≤ i) ∧ w.heap.size ≤ w2.heap.size := by
  obtain ⟨hL, hR, hF, hV, hO⟩ := hG
  obtain ⟨a1, a2, a3, a4⟩ := hA
  have hA2 : ∀ i, blk A2 i → blk (A k) i ∨ sk ≤ i := fun i hi => by
    rcases hA2' i hi with h | h
    · exact hb i h
    · exact .inr (by omega)
  refine ⟨⟨Own.fr hL hFr (fun i hi h => OwnW.ne h'' (Own.w hL) hne h hi), fun j hj => ?_, hF.trans hFr (fun i hi h => ?_), hV.fr hFr (fun i hi h => OwnW.ne h'' (Own.w hV) hne h hi), fun j hj => ?_⟩, hA2, hFr.size⟩
  · by_cases hjk : j = k
    · subst hjk
      exact pair_appendW (hR j hj) h'' hp h2 hFr hg
    · refine (hR j hj).fr hFr (fun i hi h => ?_)
      rcases hb i h with h | h
      · exact hd k j hk hj (fun e => hjk e.symm) i h hi
      · have := a1 j hj i hi; omega
  · rcases hb i h with h | h
    · exact ⟨k, hk, h⟩
    · omega
  · refine (hO j hj).fr hFr (fun i hi h => ?_)
    obtain ⟨q1, q2⟩ := a4 j hj i hi
    rcases hb i h with h | h
    · have h3 := a1 k hk i h
      rcases q1 with q1 | q1
      · exact hd k j hk (by omega) (by omega) i h q1
      · omega
    · omega

theorem gs_storeW {A2 : Option Addr} {c2 m : Nat} (hne : e ≠ st) (hG : GrW sz e st mc B L cl N A n c gg w0 V E A' c' k w) (hA : GrA N A n s0 sk V A' c' k) (hk : k < N) (h2 : OwnW sz w B e A2 (n k + 64) c2 (mkF mc k (n k) ++ E k)) (hb : ∀ i, blk A2 i → blk (A k) i ∨ sk ≤ i)
    (hm : m = n k + 64) (hgl : ¬ blk L gg) (hw0 : w0.heap.size ≤ gg) (hsk : sk ≤ w.heap.size) :
    GrW sz e st mc B L cl N A n c gg w0 (upd V k (.slice A2 m c2)) E (upd A' k A2) (upd c' k c2) (k + 1) (w.setCell ⟨gg, k, none⟩ (.slice A2 m c2)) ∧ GrA N A n s0 w.heap.size (upd V k (.slice A2 m c2)) (upd A' k A2) (upd c' k c2) (k + 1) := by
  obtain ⟨hL, hR, hF, hV, hO⟩ := hG
  obtain ⟨a1, a2, a3, a4⟩ := hA
  have hFr : Fr (fun j => j = gg) w (w.setCell ⟨gg, k, none⟩ (.slice A2 m c2)) := (Fr.refl (fun j => j = gg) w).set (p := ⟨gg, k, none⟩) (.inl rfl) _
  have off : ∀ {D : Option Addr} {d d' : Nat} {xs : List Value}, OwnW sz w B e D d d' xs → ∀ i, blk D i → ¬ i = gg := fun h i hi t => by subst t; exact OwnW.ne h (Own.w hV) hne hi rfl
  refine ⟨⟨?_, fun j hj => (hR j hj).fr hFr (off (hR j hj)), hF.set (p := ⟨gg, k, none⟩) (.inr hw0) _, ?_, fun j hj => ?_⟩, a1, Nat.le_trans a2 hsk, fun j hj => ?_, fun j hj i hi => ?_⟩
  · exact Own.fr hL hFr (fun i hi t => hgl (by subst t; exact hi))
  · refine own_cong (hV.set k (.slice A2 m c2)) ?_
    apply List.ext_getElem?
    intro j
    rw [List.getElem?_set]
    by_cases hj : j < N
    · by_cases hjk : k = j
      · subst hjk; simp [upd_same, hk]
      · simp [hjk, hj, upd_ne V k _ (fun e => hjk e.symm)]
    · simp [hj]; intro t; omega
  · by_cases hjk : j = k
    · subst hjk; rw [upd_same, upd_same]; exact h2.fr hFr (off h2)
    · rw [upd_ne _ _ _ hjk, upd_ne _ _ _ hjk]
      have h3 := hO j (by omega)
      exact h3.fr hFr (off h3)
  · by_cases hjk : j = k
    · subst hjk; rw [upd_same, upd_same, upd_same, hm]
    · rw [upd_ne _ _ _ hjk, upd_ne _ _ _ hjk, upd_ne _ _ _ hjk]; exact a3 j (by omega)
  · by_cases hjk : j = k
    · subst hjk
      rw [upd_same] at hi
      refine ⟨(hb i hi).elim .inl (fun h => .inr (by omega)), (h2.lt hi).2⟩
    · rw [upd_ne _ _ _ hjk] at hi
      obtain ⟨q1, q2⟩ := a4 j (by omega) i hi
      exact ⟨q1, by omega⟩
end

theorem storeVar_at (T bt : TypeId) (w : World) (b i sz : Nat) (cur vs : Array Value) (h : w.heap[b]? = some (.cells cur bt)) (hi : (Tryz.prog.info? T).map (·.size) = some sz) (hs : (i + 1) * sz ≤ cur.size) (hv : vs.size = sz) (h1 : ∀ v ∈ vs, v.oneCell' = true) :
    ∃ w', (storeVar T ⟨b, i * sz, none⟩ (.agg vs)).run Tryz.prog w = .ok () w' ∧ Stored sz b i vs.toList w w' := by
  have hl : vs.toList.length = sz := by simpa using hv
  have hm : (i + 1) * sz = i * sz + sz := Nat.succ_mul _ _
  have h2 := run_storeCells_at Tryz.prog b (i * sz) bt vs.toList 0 cur w h (by rw [hl]; omega) (fun v hv => h1 v (by simpa using hv))
  have hc : (cur.toList.take (i * sz + 0) ++ vs.toList ++ cur.toList.drop (i * sz + 0 + vs.toList.length)).toArray = (cur.toList.take (i * sz) ++ vs.toList ++ cur.toList.drop ((i + 1) * sz)).toArray := by
    rw [hl, Nat.add_zero, hm]
  rw [hc] at h2
  refine ⟨w.setRow b (cur.toList.take (i * sz) ++ vs.toList ++ cur.toList.drop ((i + 1) * sz)).toArray, ?_, ⟨rfl, rfl, rfl, by simp [World.setRow], fun k _ hk => setRow_other w b k _ (fun e => hk e)⟩, fun cur' e' hh _ => ?_⟩
  · cases hq : Tryz.prog.info? T with
    | none => rw [hq] at hi; cases hi
    | some ti =>
      rw [hq] at hi
      have hs : ti.size = sz := by simpa using hi
      simp only [storeVar, vcells, Sem.run_bind, sizeOf, typeInfo]
      simp [hq, hs, hv, h2]
  · have h9 := h.symm.trans hh
    simp only [Option.some.injEq, Obj.cells.injEq] at h9
    obtain ⟨rfl, rfl, _⟩ := h9
    exact setRow_heap w b cur _ _ _ h
theorem wpList_store_at {ops : Array Oper} {rest : List Oper} {o : Oper} {a : Act} {w : World} {Q : Exit → Act → World → Prop} (hgd : o.guard = none) (T bt : TypeId) (x y : Operand) (ho : o.op = .store T x y) (hd : o.dst = none)
    (b i sz : Nat) (cur vs : Array Value) (hx : a.eval x = .pointer (some ⟨b, i * sz, none⟩)) (hy : a.eval y = .agg vs) (hg : w.heap[b]? = some (.cells cur bt)) (hi : (Tryz.prog.info? T).map (·.size) = some sz) (hs : (i + 1) * sz ≤ cur.size) (hv : vs.size = sz) (h1 : ∀ v ∈ vs, v.oneCell' = true)
    (h : ∀ w', Stored sz b i vs.toList w w' → wpList Tryz.prog ops Q rest a w') : wpList Tryz.prog ops Q (o :: rest) a w := by
  refine wpList_plain hgd fun K hK => ?_
  obtain ⟨w', g1, g2⟩ := storeVar_at T bt w b i sz cur vs hg hi hs hv h1
  unfold Oper.wp execOp
  simp only [ho, hx, hy, Instr.storeAt, Instr.sureAddr, Sem.run_bind, Sem.run_pure, Result.andThen_ok, g1]
  have h4 := hK a w' (h w' g2)
  simp [Oper.upon, hd, Act.put, h4]
theorem HasRow.stored {sz : Nat} {w w' : World} {g c i : Nat} {cs : List Value} (h : HasRow sz w g c) (hs : Stored sz g i cs w w') (hi : i < c) (hc : cs.length = sz) : HasRow sz w' g c := by
  obtain ⟨cur, e, h1, h2⟩ := h
  have h5 : (i + 1) * sz ≤ c * sz := Nat.mul_le_mul_right _ hi
  have h6 : (i + 1) * sz = i * sz + sz := Nat.succ_mul _ _
  refine ⟨_, e, hs.2 cur e h1 (by omega), ?_⟩
  simp only [List.size_toArray, List.length_append, List.length_take, List.length_drop, Array.length_toList, hc]
  omega
theorem HasRow.cell1 {w : World} {g c : Nat} (h : HasRow 1 w g c) {k : Nat} (hk : k < c) : (∃ u, w.cell? ⟨g, k, none⟩ = some u) ∧ w.frozen? ⟨g, k, none⟩ = false := by
  obtain ⟨cs, e, h1, h2⟩ := h
  exact ⟨⟨cs[k]'(by omega), by rw [cell_of_heap h1]; exact Array.getElem?_eq_getElem (by omega)⟩, frozen_of_heap h1 k⟩
theorem HasRow.ofW {sz : Nat} {w : World} {B : Nat} {e : TypeId} {g n c : Nat} {xs : List Value} (h : OwnW sz w B e (some ⟨g, 0, none⟩) n c xs) : HasRow sz w g c := by
  rcases h.cases with ⟨h0, _⟩ | ⟨g', cur, hg, _, _, hh, _, _, hs, _⟩
  · cases h0
  · injection hg with hg; injection hg with hg; subst hg
    exact ⟨cur, e, hh, hs⟩
set_option maxRecDepth 100000 in
theorem appendLetsR {ops : Array Oper} {rest : List Oper} {o : Oper} {a : Act} {Q : Exit → Act → World → Prop} (w : World) (hgd : o.guard = none) (s x : Operand)
    (ho : o.op = .call { callee := .builtin .append, args := #[s, x], argTypes := #[22, 22] })
    (B : Nat) (A : Option Addr) (n c : Nat) (us : List Let) (hs : a.eval s = .slice A n c) (hn : n = us.length) (hown : OwnW 23 w B 35 A us.length c (flat us))
    (D : Option Addr) (m cc : Nat) (news : List Let) (hx : a.eval x = .slice D m cc) (hm : m = news.length) (hr : Rd w D (flat news))
    (h63 : us.length + news.length ≤ 1000000) (hbase : B ≤ w.heap.size)
    (h : ∀ A' c' w', OwnW 23 w' B 35 A' (us ++ news).length c' (flat (us ++ news)) → Fr (blk A) w w' → (∀ i, blk A' i → blk A i ∨ w.heap.size ≤ i) → ((us.length + news.length ≤ c ∧ A' = A ∧ c' = c) ∨ (c < us.length + news.length ∧ Ext w w')) → wpList Tryz.prog ops Q rest (a.put o.dst (.slice A' (us ++ news).length c')) w') : wpList Tryz.prog ops Q (o :: rest) a w := by
  subst hn hm
  refine wpList_append_W w hgd s x 22 ho 35 23 264 Tryz.underlying22 infoLetP (by omega) B A us.length c (flat us) hs hown D news.length cc (flat news) hx (flat_length news) hr (flat_one news) (by unfold maxLen; omega) (by omega) hbase ?_
  intro A' c' w' h1 h2 h3 _ h5
  have h6 := h A' c' w' (by rw [List.length_append, flat_append]; exact h1) h2 h3 h5
  rw [List.length_append] at h6
  exact h6
end Go.Proofs.YtjnllilmimngoaaGreatDoor
