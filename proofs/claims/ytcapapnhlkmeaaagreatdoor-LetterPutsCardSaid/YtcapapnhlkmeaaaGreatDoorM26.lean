/-
  What a right letter has: plain facts.
-/
import Derived.Test.YtcapapnhlkmeaaaGreatDoorM24
namespace Go.Proofs.YtcapapnhlkmeaaaGreatDoor
open Go.RowKit

theorem own_index {l : Let} (hk : l.kind ≠ 4) : l.own.index = 0 := by unfold Let.own; (repeat' split) <;> first | rfl | omega
theorem own_commit {l : Let} (hk : l.kind ≠ 3) : l.own.commit = 0 := by unfold Let.own; (repeat' split) <;> first | rfl | omega
theorem own_prev {l : Let} (hk : l.kind ≠ 3) : l.own.prev = Id.zero := by unfold Let.own; (repeat' split) <;> first | rfl | omega
theorem own_yes {l : Let} (h2 : l.kind ≠ 2) (h4 : l.kind ≠ 4) (h6 : l.kind ≠ 6) : l.own.yes = false := by unfold Let.own; (repeat' split) <;> first | rfl | omega
theorem right_eq {l : Let} (h : rightL l = true) : l.ok = true ∧ l.own.index = l.index ∧ l.own.commit = l.commit ∧ l.own.prev.t = l.prev.t ∧ l.own.yes = l.yes ∧ l.own.want.length = l.want.length ∧ l.own.ents.length = l.ents.length ∧ l.own.bs.length = l.bs.length := by
  simp only [rightL, plainEq, eqI, Bool.and_eq_true, beq_iff_eq] at h
  obtain ⟨h0, h1, h2, _, _, _, ⟨_, h6, _⟩, _, h8, h9, h10, h11, _⟩ := h
  exact ⟨h0, h1, h2, h6, h8, by omega, by omega, by omega⟩
theorem not_index {l : Let} (hk : l.kind ≠ 4) (h : l.index ≠ 0) : rightL l = false := by
  rw [Bool.eq_false_iff]
  intro hr
  have := (right_eq hr).2.1
  rw [own_index hk] at this
  exact h this.symm
theorem not_commit {l : Let} (hk : l.kind ≠ 3) (h : l.commit ≠ 0) : rightL l = false := by
  rw [Bool.eq_false_iff]
  intro hr
  have := (right_eq hr).2.2.1
  rw [own_commit hk] at this
  exact h this.symm
theorem not_prev {l : Let} (hk : l.kind ≠ 3) (h : l.prev.t ≠ 0) : rightL l = false := by
  rw [Bool.eq_false_iff]
  intro hr
  have := (right_eq hr).2.2.2.1
  rw [own_prev hk] at this
  exact h this.symm
theorem not_yes {l : Let} (h2 : l.kind ≠ 2) (h4 : l.kind ≠ 4) (h6 : l.kind ≠ 6) (h : l.yes = true) : rightL l = false := by
  rw [Bool.eq_false_iff]
  intro hr
  have := (right_eq hr).2.2.2.2.1
  rw [own_yes h2 h4 h6, h] at this
  cases this
theorem ok_kind {l : Let} (h : l.ok = true) : 1 ≤ l.kind ∧ l.kind ≤ 8 := by
  by_cases hk : 1 ≤ l.kind ∧ l.kind ≤ 8
  · exact hk
  · unfold Let.ok at h
    rw [if_neg (by omega), if_neg (by omega), if_neg (by omega), if_neg (by omega), if_neg (by omega), if_neg (by omega), if_neg (by omega), if_neg (by omega)] at h
    cases h
theorem ok_ok0 {l : Let} (h : l.ok = true) : ok0 l = true := by
  unfold Let.ok okT at h
  (repeat' split at h) <;> simp_all
theorem ok_from {l : Let} (h : l.ok = true) : l.too ≠ l.frm := by
  have h0 := ok_ok0 h
  simp only [ok0, Bool.and_eq_true, bne_iff_ne] at h0
  exact h0.2.1.2
theorem carried_facts {l : Let} (h : carriedOk l = true) : l.bs.length ≤ 200 ∧ memR l.mems = true ∧ 0 ≤ l.size ∧ l.size ≤ 9600 ∧ (l.sums.length : Int) = (l.size + 199) / 200 := by
  simp only [carriedOk, snapOk, Bool.and_eq_true, decide_eq_true_eq, inR_iff, lowS] at h
  obtain ⟨⟨_, h2, h3, h4⟩, _, h6⟩ := h
  refine ⟨by omega, h2, ?_⟩
  split at h3 <;> omega
theorem wants_len {ps : List Id} (h : wantsOk ps = true) : ps.length ≤ 8 := by
  simp only [wantsOk, Bool.and_eq_true, inR_iff] at h; omega
theorem right_ents {l : Let} (h : rightL l = true) : l.ents.length ≤ 8 ∧ l.want.length ≤ 8 ∧ l.bs.length ≤ 200 := by
  obtain ⟨h0, _, _, _, _, h1, h2, h3⟩ := right_eq h
  unfold Let.ok at h0
  unfold Let.own at h1 h2 h3
  by_cases k1 : l.kind = 1
  · simp only [if_pos k1] at h1 h2 h3
    change 0 = _ at h1
    change 0 = _ at h2
    change 0 = _ at h3
    omega
  by_cases k2 : l.kind = 2
  · simp only [if_neg k1, if_pos k2] at h1 h2 h3
    change 0 = _ at h1
    change 0 = _ at h2
    change 0 = _ at h3
    omega
  by_cases k3 : l.kind = 3
  · simp only [if_neg k1, if_neg k2, if_pos k3] at h0 h1 h2 h3
    change 0 = _ at h1
    change 0 = _ at h3
    simp only [Bool.and_eq_true, rowOk, decide_eq_true_eq] at h0
    omega
  by_cases k4 : l.kind = 4
  · simp only [if_neg k1, if_neg k2, if_neg k3, if_pos k4] at h1 h2 h3
    change 0 = _ at h1
    change 0 = _ at h2
    change 0 = _ at h3
    omega
  by_cases k5 : l.kind = 5
  · simp only [if_neg k1, if_neg k2, if_neg k3, if_neg k4, if_pos k5] at h0 h1 h2
    change 0 = _ at h1
    change 0 = _ at h2
    simp only [Bool.and_eq_true] at h0
    have := (carried_facts h0.2).1
    omega
  by_cases k6 : l.kind = 6
  · simp only [if_neg k1, if_neg k2, if_neg k3, if_neg k4, if_neg k5, if_pos k6] at h1 h2 h3
    change 0 = _ at h1
    change 0 = _ at h2
    change 0 = _ at h3
    omega
  by_cases k7 : l.kind = 7
  · simp only [if_neg k1, if_neg k2, if_neg k3, if_neg k4, if_neg k5, if_neg k6, if_pos k7] at h0 h1 h2 h3
    by_cases hw : 0 < l.want.length
    · simp only [if_pos hw] at h0 h2 h3
      change 0 = _ at h2
      change 0 = _ at h3
      simp only [Bool.and_eq_true] at h0
      have := wants_len h0.2
      omega
    · simp only [if_neg hw] at h2 h3
      change 0 = _ at h2
      change 0 = _ at h3
      omega
  by_cases k8 : l.kind = 8
  · simp only [if_neg k1, if_neg k2, if_neg k3, if_neg k4, if_neg k5, if_neg k6, if_neg k7, if_pos k8] at h0 h1 h2 h3
    by_cases hw : 0 < l.ents.length
    · simp only [if_pos hw] at h0 h3
      change 0 = _ at h3
      simp only [Bool.and_eq_true, goodsOk, inR_iff, aheadsOk, decide_eq_true_eq] at h0
      omega
    · simp only [if_neg hw] at h0 h1
      change 0 = _ at h1
      simp only [Bool.and_eq_true] at h0
      have := (carried_facts h0.2).1
      omega
  have := ok_kind (right_eq h).1
  omega
theorem right_3 {l : Let} (h : rightL l = true) (hk : l.kind = 3) : followsN l.prev l.ents = 0 := by
  have h0 := (right_eq h).1
  unfold Let.ok at h0
  rw [if_neg (by omega), if_neg (by omega), if_pos hk] at h0
  simp only [Bool.and_eq_true, rowOk, beq_iff_eq] at h0
  exact h0.2.2.2.2.1
theorem right_5 {l : Let} (h : rightL l = true) (hk : l.kind = 5) : memR l.mems = true ∧ 0 ≤ l.size ∧ l.size ≤ 9600 ∧ (l.sums.length : Int) = (l.size + 199) / 200 := by
  have h0 := (right_eq h).1
  unfold Let.ok at h0
  rw [if_neg (by omega), if_neg (by omega), if_neg (by omega), if_neg (by omega), if_pos hk] at h0
  simp only [Bool.and_eq_true] at h0
  exact (carried_facts h0.2).2
end Go.Proofs.YtcapapnhlkmeaaaGreatDoor
