/-
  The plain law: the two writers hold the same, unless they are spoilt. Two writers in one memory.
-/
import Derived.Test.YtfpabbhgmncjdaaSz
namespace Go.Proofs.Ytfpabbhgmncjdaa
open Go.RowKit

def SRel (a r : List Int × Bool) : Prop := a.2 = r.2 ∧ (a.2 = false → a.1 = r.1)
theorem SRel.same (s : List Int × Bool) : SRel s s := ⟨rfl, fun _ => rfl⟩
theorem SRel.bad {x y : List Int} : SRel (x, true) (y, true) := ⟨rfl, fun h => by cases h⟩

theorem rputs_bad (wd : Int) (zs : List Int) : ∀ bs : List Int, (rputs wd (bs, true) zs).2 = true := by
  induction zs with
  | nil => intro bs; rfl
  | cons z zs ih =>
    intro bs
    show (rputs wd (rfieldS wd bs true z) zs).2 = true
    unfold rfieldS
    split <;> exact ih _
theorem srel_bad {x : List Int} {r : List Int × Bool} (h : r.2 = true) : SRel (x, true) r := ⟨h.symm, fun h => by cases h⟩
theorem putF_rel (wd : Int) (zs : List Int) : ∀ bs : List Int, SRel (putF wd bs zs) (rputs wd (bs, false) zs) := by
  induction zs with
  | nil => intro bs; exact SRel.same _
  | cons z zs ih =>
    intro bs
    show SRel _ (rputs wd (rfieldS wd bs false z) zs)
    unfold putF rfieldS
    split
    · exact ih _
    · exact srel_bad (rputs_bad wd zs bs)
theorem field_rel {wd : Int} {zs : List Int} {a r : List Int × Bool} (h : SRel a r) : SRel (fieldS wd a.1 a.2 zs) (rfieldsS wd r.1 r.2 zs) := by
  obtain ⟨ab, aS⟩ := a
  obtain ⟨rb, rs⟩ := r
  obtain ⟨h1, h2⟩ := h
  simp only at h1 h2
  subst h1
  unfold fieldS rfieldsS
  cases aS with
  | true =>
    rw [if_pos rfl]
    refine srel_bad ?_
    split <;> exact rputs_bad wd zs rb
  | false =>
    obtain rfl := h2 rfl
    simp only [Bool.false_eq_true, if_false]
    by_cases ht : topI wd < 0
    · rw [if_pos ht, if_pos ht]; exact srel_bad (rputs_bad wd zs ab)
    · rw [if_neg ht, if_neg ht]; exact putF_rel wd zs ab
theorem text_rel {ys : List Int} {a r : List Int × Bool} (h : SRel a r) : SRel (textS a.1 a.2 ys) (rtextS r.1 r.2 ys) := by
  obtain ⟨ab, aS⟩ := a
  obtain ⟨rb, rs⟩ := r
  obtain ⟨h1, h2⟩ := h
  simp only at h1 h2
  subst h1
  unfold textS rtextS rfieldS
  cases aS with
  | true =>
    rw [if_pos rfl]
    refine srel_bad ?_
    split <;> rfl
  | false =>
    obtain rfl := h2 rfl
    simp only [Bool.false_eq_true, if_false]
    by_cases ht : ys.length ≤ 65535
    · rw [if_pos ht, if_pos (okN_iff.2 ⟨by omega, by show (ys.length : Int) ≤ 65535; omega⟩)]
      exact SRel.same _
    · rw [if_neg ht, if_neg (fun hk => ht (by have := (okN_iff.1 hk).2; have h3 : (ys.length : Int) ≤ 65535 := this; omega))]
      exact SRel.bad
theorem row_rel {zs : List Int} {a r : List Int × Bool} (h : SRel a r) : SRel (rowS a.1 a.2 zs) (rrowS r.1 r.2 zs) := by
  obtain ⟨ab, aS⟩ := a
  obtain ⟨rb, rs⟩ := r
  obtain ⟨h1, h2⟩ := h
  simp only at h1 h2
  subst h1
  unfold rowS rrowS rfieldS
  cases aS with
  | true =>
    rw [if_pos rfl]
    refine srel_bad ?_
    split <;> exact rputs_bad 6 zs _
  | false =>
    obtain rfl := h2 rfl
    simp only [Bool.false_eq_true, if_false]
    by_cases ht : zs.length ≤ 255
    · rw [if_pos ht, if_pos (okN_iff.2 ⟨by omega, by show (zs.length : Int) ≤ 255; omega⟩)]
      have hf : ∀ b, fieldS 6 b false zs = putF 6 b zs := fun b => by rw [fieldS, if_neg (by simp), if_neg (by decide)]
      rw [hf]
      exact putF_rel 6 zs _
    · rw [if_neg ht, if_neg (fun hk => ht (by have := (okN_iff.1 hk).2; have h3 : (zs.length : Int) ≤ 255 := this; omega))]
      exact srel_bad (rputs_bad 6 zs _)
theorem entry_rel {i t k : Int} {ys : List Int} {a r : List Int × Bool} (h : SRel a r) : SRel (entryS a.1 a.2 i t k ys) (rentryS r.1 r.2 i t k ys) := by
  obtain ⟨ab, aS⟩ := a
  obtain ⟨rb, rs⟩ := r
  obtain ⟨h1, h2⟩ := h
  simp only at h1 h2
  subst h1
  unfold entryS rentryS
  cases aS with
  | true =>
    rw [if_pos rfl]
    refine srel_bad ?_
    split <;> rfl
  | false =>
    obtain rfl := h2 rfl
    simp only [Bool.false_eq_true, if_false]
    split
    · exact SRel.same _
    · exact SRel.bad

theorem putF_len (wd : Int) (zs : List Int) : ∀ bs : List Int, 0 ≤ topI wd → (putF wd bs zs).1.length ≤ bs.length + 6 * zs.length := by
  induction zs with
  | nil => intro bs _; simp [putF]
  | cons z zs ih =>
    intro bs hT
    unfold putF
    split
    · have h1 := ih (bs ++ leB wd.toNat z) hT
      have h6 := toNat_le wd hT
      simp [leB_length] at h1 ⊢
      omega
    · simp <;> omega
theorem rputs_len (wd : Int) (zs : List Int) : ∀ s : List Int × Bool, (rputs wd s zs).1.length ≤ s.1.length + 6 * zs.length := by
  induction zs with
  | nil => intro s; simp [rputs]
  | cons z zs ih =>
    intro s
    show (rputs wd (rfieldS wd s.1 s.2 z) zs).1.length ≤ _
    have h1 := ih (rfieldS wd s.1 s.2 z)
    have h2 := rfieldS_len wd s.1 s.2 z
    simp at h1 ⊢
    omega
theorem fieldS_len (wd : Int) (bs : List Int) (sp : Bool) (zs : List Int) : (fieldS wd bs sp zs).1.length ≤ bs.length + 6 * zs.length := by
  unfold fieldS
  split
  · simp
  · split
    · simp
    · exact putF_len wd zs bs (by omega)
theorem textS_len (bs : List Int) (sp : Bool) (ys : List Int) : (textS bs sp ys).1.length ≤ bs.length + 2 + ys.length := by
  unfold textS
  split
  · simp <;> omega
  · split
    · simp [leB_length] <;> omega
    · simp <;> omega
theorem rowS_len (bs : List Int) (sp : Bool) (zs : List Int) : (rowS bs sp zs).1.length ≤ bs.length + 1 + 6 * zs.length := by
  unfold rowS
  split
  · simp <;> omega
  · split
    · have := fieldS_len 6 (bs ++ leB 1 zs.length) false zs
      simp [leB_length] at this
      omega
    · simp <;> omega
theorem entryS_len (bs : List Int) (sp : Bool) (i t k : Int) (ys : List Int) : (entryS bs sp i t k ys).1.length ≤ bs.length + 15 + ys.length := by
  unfold entryS
  split
  · simp <;> omega
  · split
    · simp [leB_length]; omega
    · simp <;> omega
theorem rfieldsS_len (wd : Int) (bs : List Int) (sp : Bool) (zs : List Int) : (rfieldsS wd bs sp zs).1.length ≤ bs.length + 6 * zs.length := rputs_len wd zs _
theorem rtextS_len (bs : List Int) (sp : Bool) (ys : List Int) : (rtextS bs sp ys).1.length ≤ bs.length + 6 + ys.length := by
  have := rfieldS_len 2 bs sp ys.length
  simp [rtextS]; omega
theorem rrowS_len (bs : List Int) (sp : Bool) (zs : List Int) : (rrowS bs sp zs).1.length ≤ bs.length + 6 + 6 * zs.length := by
  have h1 := rputs_len 6 zs (rfieldS 1 bs sp zs.length)
  have h2 := rfieldS_len 1 bs sp zs.length
  unfold rrowS
  omega
theorem rentryS_len (bs : List Int) (sp : Bool) (i t k : Int) (ys : List Int) : (rentryS bs sp i t k ys).1.length ≤ bs.length + 15 + ys.length := by
  unfold rentryS
  split
  · simp [leB_length]; omega
  · simp <;> omega

/-- Two writers, of the program and of the document; blocks of G lie as in W0. -/
structure TwoG (s wb vb : Nat) (w0 W0 : World) (G : Nat → Prop) (a r : List Int × Bool) (A : Option Addr) (c : Nat) (A' : Option Addr) (c' : Nat) (W : World) : Prop where
  l : Wr 37 s W wb A c a.1 a.2
  r : Wr 48 s W vb A' c' r.1 r.2
  d : ∀ i, blk A i → ¬ blk A' i
  e : Ext w0 W
  hs : w0.heap.size = s
  g : ∀ i, G i → i < W.heap.size ∧ ¬ touched wb A i ∧ ¬ touched vb A' i ∧ W.heap[i]? = W0.heap[i]?

section
variable {s wb vb c c' : Nat} {w0 W0 W W' : World} {G : Nat → Prop} {a r : List Int × Bool} {A A' : Option Addr}
theorem TwoG.wv (h : TwoG s wb vb w0 W0 G a r A c A' c' W) : vb ≠ wb := fun e => by
  have h1 := h.l.1
  have h2 := h.r.1
  rw [e, h1] at h2
  injection h2 with h2
  injection h2 with _ h3
  exact absurd h3 (by decide)
theorem TwoG.sz (h : TwoG s wb vb w0 W0 G a r A c A' c' W) : s ≤ W.heap.size := by have := h.e.sz; have := h.hs; omega
theorem TwoG.lge (h : TwoG s wb vb w0 W0 G a r A c A' c' W) : ∀ i, touched wb A i → s ≤ i := by
  rintro i (rfl | hi)
  · exact h.l.2.1
  · exact (h.l.2.2.lt hi).1
theorem TwoG.rge (h : TwoG s wb vb w0 W0 G a r A c A' c' W) : ∀ i, touched vb A' i → s ≤ i := by
  rintro i (rfl | hi)
  · exact h.r.2.1
  · exact (h.r.2.2.lt hi).1
theorem TwoG.fr {S : Nat → Prop} (h : TwoG s wb vb w0 W0 G a r A c A' c' W) (hf : Fr S W W') (hS : ∀ i, S i → s ≤ i ∧ ¬ touched wb A i ∧ ¬ touched vb A' i ∧ ¬ G i) : TwoG s wb vb w0 W0 G a r A c A' c' W' :=
  ⟨h.l.fr hf (fun x => (hS _ x).2.1 (.inl rfl)) (fun i hi x => (hS _ x).2.1 (.inr hi)), h.r.fr hf (fun x => (hS _ x).2.2.1 (.inl rfl)) (fun i hi x => (hS _ x).2.2.1 (.inr hi)), h.d,
    Below.trans h.e (hf.below (by have := h.sz; have := h.hs; omega) (fun i hi => by have := (hS i hi).1; have := h.hs; omega)), h.hs, fun i hi => by
      obtain ⟨h1, h2, h3, h4⟩ := h.g i hi
      exact ⟨Nat.lt_of_lt_of_le h1 hf.size, h2, h3, (hf.block i h1 (fun x => (hS i x).2.2.2 hi)).trans h4⟩⟩
theorem TwoG.ext (h : TwoG s wb vb w0 W0 G a r A c A' c' W) (he : Ext W W') : TwoG s wb vb w0 W0 G a r A c A' c' W' := h.fr (Fr.ofExt (fun _ => False) he) (fun _ h => h.elim)
theorem TwoG.left {bs : List Int} {sp : Bool} (h : TwoG s wb vb w0 W0 G a r A c A' c' W) (hst : WStep 37 s wb A W bs sp W') : ∃ A2 c2, TwoG s wb vb w0 W0 G (bs, sp) r A2 c2 A' c' W' ∧ ∀ i, blk A2 i → blk A i ∨ W.heap.size ≤ i := by
  obtain ⟨A2, c2, hw, hf, hA⟩ := hst
  have nv : ¬ touched wb A vb := by
    rintro (e | e)
    · exact h.wv e
    · exact h.l.2.2.ne_blk h.r.1 (by decide) e
  have na : ∀ i, blk A' i → ¬ touched wb A i := by
    rintro i hi (rfl | e)
    · exact h.r.2.2.ne_blk h.l.1 (by decide) hi
    · exact h.d i e hi
  refine ⟨A2, c2, ⟨hw, h.r.fr hf nv na, fun i hi hi' => ?_, Below.trans h.e (hf.below (by have := h.sz; have := h.hs; omega) (fun i hi => by have := h.lge i hi; have := h.hs; omega)), h.hs, fun i hi => ?_⟩, hA⟩
  · rcases hA i hi with h1 | h1
    · exact h.d i h1 hi'
    · have := (h.r.2.2.lt hi').2; omega
  · obtain ⟨h1, h2, h3, h4⟩ := h.g i hi
    refine ⟨Nat.lt_of_lt_of_le h1 hf.size, ?_, h3, (hf.block i h1 h2).trans h4⟩
    rintro (e | e)
    · exact h2 (.inl e)
    · rcases hA i e with h5 | h5
      · exact h2 (.inr h5)
      · omega
theorem TwoG.right {bs : List Int} {sp : Bool} (h : TwoG s wb vb w0 W0 G a r A c A' c' W) (hst : WStep 48 s vb A' W bs sp W') : ∃ A2 c2, TwoG s wb vb w0 W0 G a (bs, sp) A c A2 c2 W' ∧ ∀ i, blk A2 i → blk A' i ∨ W.heap.size ≤ i := by
  obtain ⟨A2, c2, hw, hf, hA⟩ := hst
  have nv : ¬ touched vb A' wb := by
    rintro (e | e)
    · exact h.wv e.symm
    · exact h.r.2.2.ne_blk h.l.1 (by decide) e
  have na : ∀ i, blk A i → ¬ touched vb A' i := by
    rintro i hi (rfl | e)
    · exact h.l.2.2.ne_blk h.r.1 (by decide) hi
    · exact h.d i hi e
  refine ⟨A2, c2, ⟨h.l.fr hf nv na, hw, fun i hi hi' => ?_, Below.trans h.e (hf.below (by have := h.sz; have := h.hs; omega) (fun i hi => by have := h.rge i hi; have := h.hs; omega)), h.hs, fun i hi => ?_⟩, hA⟩
  · rcases hA i hi' with h1 | h1
    · exact h.d i hi h1
    · have := (h.l.2.2.lt hi).2; omega
  · obtain ⟨h1, h2, h3, h4⟩ := h.g i hi
    refine ⟨Nat.lt_of_lt_of_le h1 hf.size, h2, ?_, (hf.block i h1 h3).trans h4⟩
    rintro (e | e)
    · exact h3 (.inl e)
    · rcases hA i e with h5 | h5
      · exact h3 (.inr h5)
      · omega
/-- What was made since stays. -/
theorem TwoG.base {z : Nat} (h : TwoG s wb vb w0 W0 (fun _ => False) a r A c A' c' W) (he : Ext W W') (hz : W.heap.size = z) : TwoG s wb vb w0 W' (fun i => z ≤ i ∧ i < W'.heap.size) a r A c A' c' W' := by
  have h1 := h.ext he
  refine ⟨h1.l, h1.r, h1.d, h1.e, h1.hs, fun i hi => ⟨hi.2, ?_, ?_, rfl⟩⟩
  · rintro (e | e)
    · have := h.l.lt; omega
    · have := (h.l.2.2.lt e).2; omega
  · rintro (e | e)
    · have := h.r.lt; omega
    · have := (h.r.2.2.lt e).2; omega
theorem TwoG.free (h : TwoG s wb vb w0 W0 G a r A c A' c' W) (W1 : World) : TwoG s wb vb w0 W1 (fun _ => False) a r A c A' c' W := ⟨h.l, h.r, h.d, h.e, h.hs, fun _ h => h.elim⟩
theorem TwoG.rd {b o : Nat} {xs : List Value} (h : TwoG s wb vb w0 W0 G a r A c A' c' W) (hr : Rd W0 (some ⟨b, o, none⟩) xs) (hb : G b) : Rd W (some ⟨b, o, none⟩) xs := fun j u hj => by
  obtain ⟨ad, ha, hc⟩ := hr j u hj
  refine ⟨ad, ha, ?_⟩
  injection ha with ha
  subst ha
  have hk : W.heap[((⟨b, o, none⟩ : Addr).add j).block]? = W0.heap[((⟨b, o, none⟩ : Addr).add j).block]? := by rw [add_block]; exact (h.g b hb).2.2.2
  rw [World.cell?_of_block hk]
  exact hc
theorem TwoG.cell {b o : Nat} {u : Value} (h : TwoG s wb vb w0 W0 G a r A c A' c' W) (hc : W0.cell? ⟨b, o, none⟩ = some u) (hb : G b) : W.cell? ⟨b, o, none⟩ = some u := by
  rw [World.cell?_of_block (h.g b hb).2.2.2]; exact hc
/-- A lent row lies off both; a row of the input too. -/
theorem TwoG.offL {b o : Nat} (h : TwoG s wb vb w0 W0 G a r A c A' c' W) (hb : G b) : Off (touched wb A) (some ⟨b, o, none⟩) := fun ad ha => by injection ha with ha; subst ha; exact (h.g b hb).2.1
theorem TwoG.offR {D : Option Addr} {k : IntKind} {zs : List Int} (h : TwoG s wb vb w0 W0 G a r A c A' c' W) (hD : Rd w0 D (zs.map (.int k))) : zs ≠ [] → Off (touched vb A') D := fun hz ad ha ht => by
  cases zs with
  | nil => exact hz rfl
  | cons z zs =>
    obtain ⟨ad', ha', hc⟩ := hD 0 (.int k z) rfl
    rw [ha] at ha'
    injection ha' with ha'
    subst ha'
    have h1 := World.block_lt_of_cell? w0 _ hc
    rw [add_block] at h1
    have h2 := h.rge _ ht
    have := h.hs
    omega
end
end Go.Proofs.Ytfpabbhgmncjdaa
