import Derived.Test.YtbknabgimjkcoaaPlanE
namespace Go.Proofs.Ytbknabgimjkcoaa

theorem same_mod (x y r s : Nat) (hr : 0 < r) (hs : 0 < s) : (x / r % s = y / r % s ∧ x % r = y % r) ↔ x % (r * s) = y % (r * s) := by
  rw [Nat.mod_mul, Nat.mod_mul]
  constructor
  · rintro ⟨h1, h2⟩; rw [h1, h2]
  · intro h
    have a1 : x % r < r := Nat.mod_lt _ hr
    have a2 : y % r < r := Nat.mod_lt _ hr
    generalize x / r % s = A at *
    generalize y / r % s = B at *
    generalize x % r = u at *
    generalize y % r = v at *
    have : A = B := by
      rcases Nat.lt_trichotomy A B with h' | h' | h'
      · exfalso
        have : r * (A + 1) ≤ r * B := Nat.mul_le_mul_left _ h'
        rw [Nat.mul_add] at this; omega
      · exact h'
      · exfalso
        have : r * (B + 1) ≤ r * A := Nat.mul_le_mul_left _ h'
        rw [Nat.mul_add] at this; omega
    subst this
    exact ⟨rfl, by omega⟩

theorem row_eq (A B u v R : Int) (hu : 0 ≤ u) (hu2 : u < R) (hv : 0 ≤ v) (hv2 : v < R) : (A * (R + 2) + u = B * (R + 2) + v) ↔ (A = B ∧ u = v) := by
  constructor
  · intro h
    have : A = B := by
      rcases Int.lt_trichotomy A B with h' | h' | h'
      · exfalso
        have h2 : (A + 1) * (R + 2) ≤ B * (R + 2) := Int.mul_le_mul_of_nonneg_right h' (by omega)
        rw [Int.add_mul] at h2; omega
      · exact h'
      · exfalso
        have h2 : (B + 1) * (R + 2) ≤ A * (R + 2) := Int.mul_le_mul_of_nonneg_right h' (by omega)
        rw [Int.add_mul] at h2; omega
    subst this
    exact ⟨rfl, by omega⟩
  · rintro ⟨rfl, rfl⟩; rfl

theorem rec_eq (s r p i k : Int) (hR : rightB s r p = true) (hi : inB i 1 1099511627776 = true) (hk : inB k 1 1099511627776 = true) :
    (recordF s r p i = recordF s r p k) ↔ (i - k).tmod (s * r) = 0 := by
  obtain ⟨⟨hs1, hs2⟩, ⟨hr1, hr2⟩, hp1, hp2⟩ := rightB_true.1 hR
  obtain ⟨hi1, hi2⟩ := inB_true.1 hi
  obtain ⟨hk1, hk2⟩ := inB_true.1 hk
  simp only [recordF, hR, hi, hk, Bool.and_self, if_true]
  obtain ⟨x, hx⟩ := Int.eq_ofNat_of_zero_le (show 0 ≤ i - 1 by omega)
  obtain ⟨y, hy⟩ := Int.eq_ofNat_of_zero_le (show 0 ≤ k - 1 by omega)
  obtain ⟨R, rfl⟩ := Int.eq_ofNat_of_zero_le (show 0 ≤ r by omega)
  obtain ⟨S, rfl⟩ := Int.eq_ofNat_of_zero_le (show 0 ≤ s by omega)
  have e1 : i - k = (x : Int) - y := by omega
  rw [hx, hy, e1]
  have m1 : (0 : Int) ≤ (x : Int) % R := Int.emod_nonneg _ (by omega)
  have m2 : (x : Int) % R < R := Int.emod_lt_of_pos _ (by omega)
  have m3 : (0 : Int) ≤ (y : Int) % R := Int.emod_nonneg _ (by omega)
  have m4 : (y : Int) % R < R := Int.emod_lt_of_pos _ (by omega)
  have h1 := row_eq ((x : Int) / R % S) ((y : Int) / R % S) ((x : Int) % R) ((y : Int) % R) R m1 m2 m3 m4
  have h2 := same_mod x y R S (by omega) (by omega)
  have h3 : ((x : Int) - y).tmod ((S : Int) * R) = 0 ↔ x % (R * S) = y % (R * S) := by
    rw [← Int.dvd_iff_tmod_eq_zero, Int.dvd_iff_emod_eq_zero, ← Int.emod_eq_emod_iff_emod_sub_eq_zero]
    have : ((S : Int) * R) = ((R * S : Nat) : Int) := by push_cast; exact Int.mul_comm _ _
    rw [this]
    have e1 : (x : Int) % ((R * S : Nat) : Int) = ((x % (R * S) : Nat) : Int) := by push_cast; rfl
    have e2 : (y : Int) % ((R * S : Nat) : Int) = ((y % (R * S) : Nat) : Int) := by push_cast; rfl
    rw [e1, e2]
    omega
  have q1 : (x : Int) / R % S = ((x / R % S : Nat) : Int) := by push_cast; rfl
  have q2 : (y : Int) / R % S = ((y / R % S : Nat) : Int) := by push_cast; rfl
  have q3 : (x : Int) % R = ((x % R : Nat) : Int) := by push_cast; rfl
  have q4 : (y : Int) % R = ((y % R : Nat) : Int) := by push_cast; rfl
  rw [h3, ← h2]
  rw [q1, q2, q3, q4] at h1 ⊢
  clear h2 h3 q1 q2 q3 q4 m1 m2 m3 m4
  generalize x / R % S = A at *
  generalize y / R % S = B at *
  generalize x % R = u at *
  generalize y % R = v at *
  constructor
  · intro h
    have := h1.1 (by omega)
    omega
  · rintro ⟨rfl, rfl⟩
    rfl

theorem seg_val (s r p i : Int) (hR : rightB s r p = true) (hi : inB i 1 1099511627776 = true) : segF s r p i = (i - 1) / r ∧ 0 ≤ (i - 1) / r ∧ (i - 1) / r ≤ 1099511627775 := by
  obtain ⟨⟨hs1, hs2⟩, ⟨hr1, hr2⟩, hp1, hp2⟩ := rightB_true.1 hR
  obtain ⟨hi1, hi2⟩ := inB_true.1 hi
  have := IntWalk.tdiv_le (i - 1) r (by omega) (by omega)
  exact ⟨by simp [segF, hR, hi], by omega⟩

theorem rec_between (s r p i : Int) (hR : rightB s r p = true) (hi : inB i 1 1099511627776 = true) :
    slotF s r p ((i - 1) / r) 0 < recordF s r p i ∧ recordF s r p i < slotF s r p ((i - 1) / r) (r + 1) := by
  obtain ⟨⟨hs1, hs2⟩, ⟨hr1, hr2⟩, hp1, hp2⟩ := rightB_true.1 hR
  have h1 := (seg_val s r p i hR hi).2
  have h2 : inB ((i - 1) / r) 0 1099511627776 = true := inB_true.2 (by omega)
  have m1 : 0 ≤ (i - 1) % r := Int.emod_nonneg _ (by omega)
  have m2 : (i - 1) % r < r := Int.emod_lt_of_pos _ (by omega)
  simp only [slotF, recordF, hR, hi, h2, Bool.and_self, if_true]
  omega

theorem first_val (s r p i : Int) (hR : rightB s r p = true) (hi : inB i 1 1099511627776 = true) :
    firstF s r p ((i - 1) / r) = (i - 1) / r * r + 1 ∧ firstF s r p ((i - 1) / r + 1) = (i - 1) / r * r + 1 + r ∧ (i - 1) / r * r + 1 ≤ i ∧ i < (i - 1) / r * r + 1 + r ∧ 0 ≤ (i - 1) / r * r ∧ ((i - 1) / r = 0 ↔ (i - 1) / r * r + 1 = 1) := by
  obtain ⟨⟨hs1, hs2⟩, ⟨hr1, hr2⟩, hp1, hp2⟩ := rightB_true.1 hR
  obtain ⟨hi1, hi2⟩ := inB_true.1 hi
  have h1 := (seg_val s r p i hR hi).2
  have h2 : inB ((i - 1) / r) 0 1099511627776 = true := inB_true.2 (by omega)
  have h3 : inB ((i - 1) / r + 1) 0 1099511627776 = true := inB_true.2 (by omega)
  have m1 : 0 ≤ (i - 1) % r := Int.emod_nonneg _ (by omega)
  have m2 : (i - 1) % r < r := Int.emod_lt_of_pos _ (by omega)
  have m3 := Int.mul_ediv_add_emod (i - 1) r
  rw [Int.mul_comm] at m3
  simp only [firstF, hR, h2, h3, Bool.and_self, if_true]
  refine ⟨trivial, by rw [Int.add_mul]; omega, by omega, by omega, Int.mul_nonneg h1.1 (by omega), ?_⟩
  constructor
  · intro h; rw [h]; omega
  · intro h
    have h4 : (i - 1) / r * r = 0 := by omega
    rcases Int.mul_eq_zero.1 h4 with h5 | h5
    · exact h5
    · omega

end Go.Proofs.Ytbknabgimjkcoaa
