/-
  A right letter can be put: the plain facts.
-/
import Derived.Test.YtcapapnhlkmeaaaGreatDoorM35
import Derived.Test.YtcapapnhlkmeaaaGreatDoorM26
namespace Go.Proofs.YtcapapnhlkmeaaaGreatDoor
open Go.RowKit

theorem fits_right {p : Id} (h : p.right = true) : p.fits := by
  unfold Id.right rightI at h
  simp only [Bool.or_eq_true, Bool.and_eq_true, decide_eq_true_eq, inR_iff, zeroId, beq_iff_eq] at h
  unfold Id.fits
  omega
theorem fits_some {p : Id} (h : p.some_ = true) : p.fits := by
  unfold Id.some_ someI at h
  simp only [Bool.and_eq_true] at h
  exact fits_right h.2
theorem fits_good {e : Ent} (h : e.good = true) : e.fits := by
  unfold Ent.good goodE at h
  simp only [Bool.and_eq_true] at h
  exact h.1
theorem rowE_good : ∀ (es : List Ent) (a : Id) (j : Nat), rowE a j es = none → ∀ e ∈ es, e.good = true := by
  intro es
  induction es with
  | nil => intro a j _ e he; cases he
  | cons x es ih =>
    intro a j h e he
    unfold rowE at h
    split at h
    · rename_i hm
      have hx : x.good = true := by
        cases hg : x.good with
        | true => rfl
        | false => simp [meetsN, hg] at hm
      rcases List.mem_cons.1 he with rfl | he
      · exact hx
      · exact ih _ _ h e he
    · cases h
theorem follows_good {p : Id} {es : List Ent} (h : followsN p es = 0) : ∀ e ∈ es, e.good = true := by
  rcases rowE_cases p 0 es with h0 | ⟨k, h0⟩ | ⟨k, h0⟩
  · exact rowE_good es p 0 h0
  · simp [followsN, h0] at h
  · simp [followsN, h0] at h
theorem rising_some : ∀ (ps : List Id) (a : Int), risingW a ps = true → ∀ p ∈ ps, p.some_ = true := by
  intro ps
  induction ps with
  | nil => intro a _ p hp; cases hp
  | cons x ps ih =>
    intro a h p hp
    simp only [risingW, Bool.and_eq_true] at h
    rcases List.mem_cons.1 hp with rfl | hp
    · exact h.1
    · exact ih _ h.2.2 p hp
theorem aheadsL_right : ∀ (es : List Ent) (ps : List Id), ps.length = es.length → aheadsL es ps = true → ∀ p ∈ ps, p.right = true := by
  intro es
  induction es with
  | nil => intro ps hl _ p hp; cases ps with | nil => cases hp | cons _ _ => simp at hl
  | cons e es ih =>
    intro ps hl h p hp
    cases ps with
    | nil => cases hp
    | cons q ps =>
      simp only [aheadsL, Bool.and_eq_true, aheadAt] at h
      rcases List.mem_cons.1 hp with rfl | hp
      · exact h.1.1
      · exact ih ps (by simpa using hl) h.2 p hp
theorem memR_all {ms : List Int} (h : memR ms = true) : ∀ m ∈ ms, 1 ≤ m ∧ m ≤ 7 := fun m hm => by
  obtain ⟨j, hj⟩ := List.getElem?_of_mem hm
  have hlt := (List.getElem?_eq_some_iff.1 hj).1
  simp only [memR, Bool.and_eq_true, List.all_eq_true, List.mem_range] at h
  have := h.2 j hlt
  simp only [memAt, Bool.and_eq_true, inR_iff, getD_of hj] at this
  exact this.1
theorem memR_len7 {ms : List Int} (h : memR ms = true) : ms.length ≤ 7 := by
  have key : ∀ j, j < ms.length → (j : Int) + 1 ≤ ms.getD j 0 ∧ ms.getD j 0 ≤ 7 := by
    simp only [memR, Bool.and_eq_true, List.all_eq_true, List.mem_range] at h
    intro j
    induction j with
    | zero =>
      intro hj
      have := h.2 0 hj
      simp only [memAt, Bool.and_eq_true, inR_iff] at this
      omega
    | succ j ih =>
      intro hj
      have h1 := ih (by omega)
      have := h.2 (j + 1) hj
      simp only [memAt, Bool.and_eq_true, inR_iff, Bool.or_eq_true, decide_eq_true_eq, Nat.add_sub_cancel] at this
      omega
  have hp : 0 < ms.length := by simp only [memR, Bool.and_eq_true, decide_eq_true_eq] at h; exact h.1
  have := key (ms.length - 1) (by omega)
  omega
theorem carries_of {l : Let} (h : carriedOk l = true) (hu : ∀ x ∈ l.sums, 0 ≤ x ∧ x ≤ 4294967295) : l.carries := by
  have hf := carried_facts h
  simp only [carriedOk, snapOk, Bool.and_eq_true, decide_eq_true_eq, inR_iff, upP] at h
  obtain ⟨⟨h1, h2, h3, h4⟩, h5, h6⟩ := h
  refine ⟨fits_some h1, by have := memR_len7 h2; omega, fun m hm => by have := memR_all h2 m hm; omega, by omega, by omega, hu, ?_, by omega⟩
  split at h5 <;> omega
theorem puts_of_right {l : Let} (h : rightL l = true) (hu : ∀ x ∈ l.sums, 0 ≤ x ∧ x ≤ 4294967295) : l.puts := by
  have h0 := (right_eq h).1
  have hp : plainEq l.own l = true := by unfold rightL at h; simp only [Bool.and_eq_true] at h; exact h.2
  unfold Let.ok okT at h0
  refine ⟨fun hk => ?_, fun hk => ?_, fun hk => ?_, fun hk => ?_, fun hk => ?_, fun hk => ?_, fun hk => ?_⟩
  · rw [if_pos hk] at h0
    simp only [Bool.and_eq_true] at h0
    exact fits_right h0.2
  · rw [if_neg (by omega), if_neg (by omega), if_pos hk] at h0
    simp only [Bool.and_eq_true, rowOk, beq_iff_eq, decide_eq_true_eq, inR_iff] at h0
    obtain ⟨_, h1, h2, h3, h4, _⟩ := h0
    exact ⟨fits_right h1, h2, by omega, fun e he => fits_good (follows_good h4 e he)⟩
  · rw [if_neg (by omega), if_neg (by omega), if_neg (by omega), if_pos hk] at h0
    simp only [Bool.and_eq_true, inR_iff] at h0
    exact h0.2
  · rw [if_neg (by omega), if_neg (by omega), if_neg (by omega), if_neg (by omega), if_pos hk] at h0
    simp only [Bool.and_eq_true] at h0
    exact carries_of h0.2 hu
  · rw [if_neg (by omega), if_neg (by omega), if_neg (by omega), if_neg (by omega), if_neg (by omega), if_pos hk] at h0
    simp only [Bool.and_eq_true, inR_iff] at h0
    exact ⟨fits_some h0.2.1, by unfold num1; omega⟩
  · rw [if_neg (by omega), if_neg (by omega), if_neg (by omega), if_neg (by omega), if_neg (by omega), if_neg (by omega), if_pos hk] at h0
    by_cases hw : 0 < l.want.length
    · rw [if_pos hw] at h0
      simp only [Bool.and_eq_true, wantsOk, inR_iff] at h0
      have ho : l.own = l.o7a := by
        unfold Let.own
        rw [if_neg (by omega), if_neg (by omega), if_neg (by omega), if_neg (by omega), if_neg (by omega), if_neg (by omega), if_pos hk, if_pos hw]
      rw [ho] at hp
      simp only [plainEq, Bool.and_eq_true, eqI, beq_iff_eq] at hp
      obtain ⟨_, _, p1, _, ⟨p2, p3, p4⟩, _⟩ := hp
      have q1 : (0 : Int) = l.piece := p1
      have q2 : (0 : Int) = l.last.i := p2
      have q3 : (0 : Int) = l.last.t := p3
      have q4 : (0 : Int) = l.last.k := p4
      exact ⟨⟨by omega, fun p hp => fits_some (rising_some _ _ h0.2.1 p hp)⟩, by unfold Id.fits; omega, by unfold num1; omega⟩
    · rw [if_neg hw] at h0
      simp only [Bool.and_eq_true, inR_iff] at h0
      have hnil : l.want = [] := List.eq_nil_of_length_eq_zero (by omega)
      exact ⟨⟨by omega, fun p hp => by rw [hnil] at hp; cases hp⟩, fits_some h0.2.1, by unfold num1; omega⟩
  · rw [if_neg (by omega), if_neg (by omega), if_neg (by omega), if_neg (by omega), if_neg (by omega), if_neg (by omega), if_neg (by omega), if_pos hk] at h0
    by_cases hw : 0 < l.ents.length
    · rw [if_pos hw] at h0
      simp only [Bool.and_eq_true, goodsOk, aheadsOk, inR_iff, decide_eq_true_eq, List.all_eq_true] at h0
      obtain ⟨_, ⟨h1, h2⟩, h3, h4⟩ := h0
      exact ⟨⟨by omega, fun e he => fits_good (h2 e he)⟩, fun h => by omega, fun _ => ⟨by omega, fun p hp => fits_right (aheadsL_right _ _ h3 h4 p hp)⟩⟩
    · rw [if_neg hw] at h0
      simp only [Bool.and_eq_true] at h0
      have hnil : l.ents = [] := List.eq_nil_of_length_eq_zero (by omega)
      exact ⟨⟨by omega, fun e he => by rw [hnil] at he; cases he⟩, fun _ => carries_of h0.2 hu, fun h => by omega⟩
theorem right_head {l : Let} (h : rightL l = true) : (1 ≤ l.kind ∧ l.kind ≤ 8) ∧ (1 ≤ l.frm ∧ l.frm ≤ 7) ∧ (1 ≤ l.too ∧ l.too ≤ 7) ∧ num6 l.term := by
  have h0 := (right_eq h).1
  have h1 := ok_ok0 h0
  simp only [ok0, Bool.and_eq_true, inR_iff] at h1
  exact ⟨ok_kind h0, h1.1, h1.2.1.1, h1.2.2⟩
end Go.Proofs.YtcapapnhlkmeaaaGreatDoor
