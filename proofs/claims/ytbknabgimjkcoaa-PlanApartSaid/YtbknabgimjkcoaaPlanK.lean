import Derived.Test.YtbknabgimjkcoaaPlanJ
namespace Go.Proofs.Ytbknabgimjkcoaa

def segC (r i t : Nat) : Cell := if t = 0 then (4, i, 0) else if t = r + 1 then (6, i, 0) else (5, i, t - 1)
def areC (a t : Nat) : Cell := if t = 0 then (8, a, 0) else (7, a, t - 1)

theorem segL_get (r i t : Nat) (ht : t < r + 2) : (segL r i)[t]? = some (segC r i t) := by
  unfold segL segC
  cases t with
  | zero => simp
  | succ t =>
    rw [if_neg (by omega)]
    by_cases h : t < r
    · rw [if_neg (by omega)]
      rw [List.getElem?_append_left (by simp [recL]; omega)]
      simp [recL, h]
    · have : t = r := by omega
      subst this
      rw [if_pos rfl, List.getElem?_append_right (by simp [recL])]
      simp [recL]
theorem areL_get (p a t : Nat) (ht : t < p + 1) : (areL p a)[t]? = some (areC a t) := by
  unfold areL areC
  cases t with
  | zero => simp
  | succ t => have : t < p := by omega
              simp [pieL, this]

theorem segsL_get (r i t : Nat) (ht : t < r + 2) : ∀ s, i < s → (segsL r s)[i * (r + 2) + t]? = some (segC r i t) := by
  intro s
  induction s with
  | zero => intro h; omega
  | succ s ih =>
    intro h
    rw [segsL_succ]
    by_cases hi : i < s
    · have : (i + 1) * (r + 2) ≤ s * (r + 2) := Nat.mul_le_mul_right _ hi
      rw [Nat.add_mul] at this
      rw [List.getElem?_append_left (by rw [segsL_length]; omega)]
      exact ih hi
    · have : i = s := by omega
      subst this
      rw [List.getElem?_append_right (by rw [segsL_length]; omega), segsL_length]
      rw [show i * (r + 2) + t - i * (r + 2) = t by omega]
      exact segL_get r i t ht
theorem aresL_get (p i t : Nat) (ht : t < p + 1) : ∀ s, i < s → (aresL p s)[i * (p + 1) + t]? = some (areC i t) := by
  intro s
  induction s with
  | zero => intro h; omega
  | succ s ih =>
    intro h
    rw [aresL_succ]
    by_cases hi : i < s
    · have : (i + 1) * (p + 1) ≤ s * (p + 1) := Nat.mul_le_mul_right _ hi
      rw [Nat.add_mul] at this
      rw [List.getElem?_append_left (by rw [aresL_length]; omega)]
      exact ih hi
    · have : i = s := by omega
      subst this
      rw [List.getElem?_append_right (by rw [aresL_length]; omega), aresL_length]
      rw [show i * (p + 1) + t - i * (p + 1) = t by omega]
      exact areL_get p i t ht

theorem cellsL_seg (s r p i t : Nat) (hi : i < s) (ht : t < r + 2) : (cellsL s r p)[6 + i * (r + 2) + t]? = some (segC r i t) := by
  have : (i + 1) * (r + 2) ≤ s * (r + 2) := Nat.mul_le_mul_right _ hi
  rw [Nat.add_mul] at this
  unfold cellsL
  rw [List.getElem?_append_left (by rw [List.length_append, segsL_length]; simp [preL]; omega), List.getElem?_append_right (by simp [preL]; omega)]
  rw [show 6 + i * (r + 2) + t - preL.length = i * (r + 2) + t by simp [preL]; omega]
  exact segsL_get r i t ht s hi
theorem cellsL_are (s r p a t : Nat) (ha : a < 2) (ht : t < p + 1) : (cellsL s r p)[6 + s * (r + 2) + a * (p + 1) + t]? = some (areC a t) := by
  unfold cellsL
  have hl : (preL ++ segsL r s).length = 6 + s * (r + 2) := by rw [List.length_append, segsL_length]; rfl
  rw [List.getElem?_append_right (by rw [hl]; omega), hl]
  rw [show 6 + s * (r + 2) + a * (p + 1) + t - (6 + s * (r + 2)) = a * (p + 1) + t by omega]
  exact aresL_get p a t ht 2 ha
theorem cellsL_pre (s r p b : Nat) (hb : b < 6) : (cellsL s r p)[b]? = some (1 + b / 2, 0, b % 2) := by
  unfold cellsL
  rw [List.append_assoc, List.getElem?_append_left (by simp [preL]; omega)]
  match b, hb with
  | 0, _ => rfl
  | 1, _ => rfl
  | 2, _ => rfl
  | 3, _ => rfl
  | 4, _ => rfl
  | 5, _ => rfl

/-- What each place holds. -/
theorem cellsL_class (s r p j : Nat) (hj : j < (cellsL s r p).length) :
    (j < 6 ∧ (cellsL s r p)[j]? = some (1 + j / 2, 0, j % 2)) ∨
    (∃ i t, i < s ∧ t < r + 2 ∧ j = 6 + i * (r + 2) + t ∧ (cellsL s r p)[j]? = some (segC r i t)) ∨
    (∃ a t, a < 2 ∧ t < p + 1 ∧ j = 6 + s * (r + 2) + a * (p + 1) + t ∧ (cellsL s r p)[j]? = some (areC a t)) := by
  rw [cellsL_length] at hj
  by_cases h1 : j < 6
  · exact .inl ⟨h1, cellsL_pre s r p j h1⟩
  by_cases h2 : j < 6 + s * (r + 2)
  · refine .inr (.inl ⟨(j - 6) / (r + 2), (j - 6) % (r + 2), ?_, Nat.mod_lt _ (by omega), ?_, ?_⟩)
    · exact Nat.div_lt_of_lt_mul (by rw [Nat.mul_comm]; omega)
    · have := Nat.div_add_mod (j - 6) (r + 2); rw [Nat.mul_comm] at this; omega
    · have e : j = 6 + (j - 6) / (r + 2) * (r + 2) + (j - 6) % (r + 2) := by have := Nat.div_add_mod (j - 6) (r + 2); rw [Nat.mul_comm] at this; omega
      have := cellsL_seg s r p ((j - 6) / (r + 2)) ((j - 6) % (r + 2)) (Nat.div_lt_of_lt_mul (by rw [Nat.mul_comm]; omega)) (Nat.mod_lt _ (by omega))
      rw [← e] at this; exact this
  · have hq : (j - (6 + s * (r + 2))) / (p + 1) < 2 := Nat.div_lt_of_lt_mul (by omega)
    have e : j = 6 + s * (r + 2) + (j - (6 + s * (r + 2))) / (p + 1) * (p + 1) + (j - (6 + s * (r + 2))) % (p + 1) := by have := Nat.div_add_mod (j - (6 + s * (r + 2))) (p + 1); rw [Nat.mul_comm] at this; omega
    refine .inr (.inr ⟨(j - (6 + s * (r + 2))) / (p + 1), (j - (6 + s * (r + 2))) % (p + 1), hq, Nat.mod_lt _ (by omega), e, ?_⟩)
    have := cellsL_are s r p _ _ hq (Nat.mod_lt (j - (6 + s * (r + 2))) (show 0 < p + 1 by omega))
    rw [← e] at this; exact this

theorem cellsL_inj (s r p j j' : Nat) (c : Cell) (h : (cellsL s r p)[j]? = some c) (h' : (cellsL s r p)[j']? = some c) : j = j' := by
  have k := cellsL_class s r p j (List.getElem?_eq_some_iff.1 h).1
  have k' := cellsL_class s r p j' (List.getElem?_eq_some_iff.1 h').1
  obtain ⟨c1, c2, c3⟩ := c
  rw [h] at k
  rw [h'] at k'
  rcases k with ⟨_, k⟩ | ⟨i, t, hi, ht, e, k⟩ | ⟨i, t, hi, ht, e, k⟩ <;> rcases k' with ⟨_, k'⟩ | ⟨i', t', hi', ht', e', k'⟩ | ⟨i', t', hi', ht', e', k'⟩ <;>
    simp only [segC, areC, Option.some.injEq] at k k' <;> (try split at k) <;> (try split at k') <;> (try split at k) <;> (try split at k') <;> simp only [Prod.mk.injEq] at k k' <;> first
    | (exfalso; omega)
    | omega
    | (obtain ⟨_, rfl, _⟩ := k; obtain ⟨_, rfl, _⟩ := k'; omega)

theorem isC_iff (x y z : Nat) (c : Cell) : isC x y z c = true ↔ c = (x, y, z) := by
  obtain ⟨a, b, d⟩ := c
  simp [isC]; omega

theorem findL_at (s r p j : Nat) (x y z : Nat) (h : (cellsL s r p)[j]? = some (x, y, z)) : findF (cellsL s r p) x y z = j := by
  obtain ⟨hj, hc⟩ := List.getElem?_eq_some_iff.1 h
  refine find_at _ x y z j hj (fun k hk hkj => ?_) (by rw [isC_iff]; exact hc)
  cases hb : isC x y z (cellsL s r p)[k] with
  | false => rfl
  | true =>
    rw [isC_iff] at hb
    have := cellsL_inj s r p k j _ (by rw [List.getElem?_eq_getElem hk, hb]) h
    omega

/-! ### The program's answers are the document's -/
theorem lift3 {s r p : Int} (hR : rightB s r p = true) : ∃ S R Q : Nat, s = S ∧ r = R ∧ p = Q ∧ 2 ≤ S ∧ S ≤ 16 ∧ 1 ≤ R ∧ R ≤ 32 ∧ 1 ≤ Q ∧ Q ≤ 48 ∧ cellsF s r p = cellsL S R Q := by
  obtain ⟨⟨hs1, hs2⟩, ⟨hr1, hr2⟩, hp1, hp2⟩ := rightB_true.1 hR
  obtain ⟨S, rfl⟩ := Int.eq_ofNat_of_zero_le (show 0 ≤ s by omega)
  obtain ⟨R, rfl⟩ := Int.eq_ofNat_of_zero_le (show 0 ≤ r by omega)
  obtain ⟨Q, rfl⟩ := Int.eq_ofNat_of_zero_le (show 0 ≤ p by omega)
  exact ⟨S, R, Q, rfl, rfl, rfl, by omega, by omega, by omega, by omega, by omega, by omega, by simp [cellsF, hR]⟩

theorem tell_rec (s r p i : Int) : recordF s r p i = rrecordF s r p i := by
  unfold recordF rrecordF
  cases h : rightB s r p && inB i 1 1099511627776 with
  | false => rfl
  | true =>
    obtain ⟨h1, h2⟩ := Bool.and_eq_true_iff.1 h
    obtain ⟨hi1, hi2⟩ := inB_true.1 h2
    obtain ⟨S, R, Q, rfl, rfl, rfl, _, _, _, _, _, _, hc⟩ := lift3 h1
    obtain ⟨x, hx⟩ := Int.eq_ofNat_of_zero_le (show 0 ≤ i - 1 by omega)
    simp only [if_true, hc, hx]
    have hm : x / R % S < S := Nat.mod_lt _ (by omega)
    have hm2 : x % R < R := Nat.mod_lt _ (by omega)
    have hg := cellsL_seg S R Q (x / R % S) (1 + x % R) hm (by omega)
    have e : segC R (x / R % S) (1 + x % R) = (5, x / R % S, x % R) := by
      unfold segC; rw [if_neg (by omega), if_neg (by omega)]; simp
    rw [e] at hg
    have hf := findL_at S R Q _ 5 (x / R % S) (x % R) hg
    have q1 : (x : Int) / R % S = ((x / R % S : Nat) : Int) := by push_cast; rfl
    have q2 : (x : Int) % R = ((x % R : Nat) : Int) := by push_cast; rfl
    rw [q1, q2]
    show _ = findF (cellsL S R Q) ((5 : Nat) : Int) _ _
    rw [hf]
    push_cast
    rfl

theorem tell_slot (s r p g : Int) (k : Nat) (t : Int) (hk : (k = 4 ∧ t = 0) ∨ (k = 6 ∧ t = r + 1)) : slotF s r p g t = rslotF s r p g k := by
  unfold slotF rslotF
  cases h : rightB s r p && inB g 0 1099511627776 with
  | false => rfl
  | true =>
    obtain ⟨h1, h2⟩ := Bool.and_eq_true_iff.1 h
    obtain ⟨hi1, hi2⟩ := inB_true.1 h2
    obtain ⟨S, R, Q, rfl, rfl, rfl, _, _, _, _, _, _, hc⟩ := lift3 h1
    obtain ⟨x, rfl⟩ := Int.eq_ofNat_of_zero_le hi1
    simp only [if_true, hc]
    have hm : x % S < S := Nat.mod_lt _ (by omega)
    have q1 : (x : Int) % S = ((x % S : Nat) : Int) := by push_cast; rfl
    rw [q1]
    rcases hk with ⟨rfl, rfl⟩ | ⟨rfl, rfl⟩
    · have hg := cellsL_seg S R Q (x % S) 0 hm (by omega)
      have e : segC R (x % S) 0 = (4, x % S, 0) := by unfold segC; rw [if_pos rfl]
      rw [e] at hg
      have hf := findL_at S R Q _ 4 (x % S) 0 hg
      show _ = findF (cellsL S R Q) ((4 : Nat) : Int) _ ((0 : Nat) : Int)
      rw [hf]
      push_cast
      rfl
    · have hg := cellsL_seg S R Q (x % S) (R + 1) hm (by omega)
      have e : segC R (x % S) (R + 1) = (6, x % S, 0) := by unfold segC; rw [if_neg (by omega), if_pos rfl]
      rw [e] at hg
      have hf := findL_at S R Q _ 6 (x % S) 0 hg
      show _ = findF (cellsL S R Q) ((6 : Nat) : Int) _ ((0 : Nat) : Int)
      rw [hf]
      push_cast
      rfl

theorem find_nil (x y z : Int) : findF [] x y z = -1 := rfl

theorem tell_snap (s r p a : Int) : snapF s r p a = findF (cellsF s r p) 8 a 0 := by
  unfold snapF
  cases h1 : rightB s r p with
  | false => simp [cellsF, h1, find_nil]
  | true =>
    obtain ⟨S, R, Q, rfl, rfl, rfl, _, _, _, _, _, _, hc⟩ := lift3 h1
    rw [hc]
    cases h2 : inB a 0 1 with
    | true =>
      obtain ⟨hi1, hi2⟩ := inB_true.1 h2
      obtain ⟨x, rfl⟩ := Int.eq_ofNat_of_zero_le hi1
      have hg := cellsL_are S R Q x 0 (by omega) (by omega)
      have e : areC x 0 = (8, x, 0) := by unfold areC; rw [if_pos rfl]
      rw [e] at hg
      have hf := findL_at S R Q _ 8 x 0 hg
      show _ = findF (cellsL S R Q) ((8 : Nat) : Int) _ ((0 : Nat) : Int)
      rw [hf]
      simp only [Bool.and_self, if_true]
      push_cast
      rfl
    | false =>
      have hn := inB_false.1 h2
      simp only [Bool.and_false, Bool.false_eq_true, if_false]
      refine (find_none _ _ _ _ fun j hj => ?_).symm
      have k := cellsL_class S R Q j hj
      rw [List.getElem?_eq_getElem hj] at k
      generalize (cellsL S R Q)[j] = c at *
      obtain ⟨c1, c2, c3⟩ := c
      simp only [isC]
      rcases k with ⟨_, k⟩ | ⟨i, t, hi, ht, e, k⟩ | ⟨i, t, hi, ht, e, k⟩ <;> simp only [segC, areC, Option.some.injEq] at k <;> (try split at k) <;> (try split at k) <;> simp only [Prod.mk.injEq] at k <;>
        (simp only [Bool.and_eq_false_iff, beq_eq_false_iff_ne, ne_eq]; omega)

theorem tell_piece (s r p a q : Int) : pieceF s r p a q = findF (cellsF s r p) 7 a q := by
  unfold pieceF
  cases h1 : rightB s r p with
  | false => simp [cellsF, h1, find_nil]
  | true =>
    obtain ⟨S, R, Q, rfl, rfl, rfl, _, _, _, _, _, _, hc⟩ := lift3 h1
    rw [hc]
    cases h2 : inB a 0 1 && inB q 0 ((Q : Int) - 1) with
    | true =>
      obtain ⟨h3, h4⟩ := Bool.and_eq_true_iff.1 h2
      obtain ⟨hi1, hi2⟩ := inB_true.1 h3
      obtain ⟨hq1, hq2⟩ := inB_true.1 h4
      obtain ⟨x, rfl⟩ := Int.eq_ofNat_of_zero_le hi1
      obtain ⟨y, rfl⟩ := Int.eq_ofNat_of_zero_le hq1
      have hg := cellsL_are S R Q x (1 + y) (by omega) (by omega)
      have e : areC x (1 + y) = (7, x, y) := by unfold areC; rw [if_neg (by omega)]; simp
      rw [e] at hg
      have hf := findL_at S R Q _ 7 x y hg
      show _ = findF (cellsL S R Q) ((7 : Nat) : Int) _ _
      rw [hf]
      simp only [h3, h4, Bool.and_self, if_true]
      push_cast
      exact Int.add_assoc _ _ _
    | false =>
      have hn : ¬ ((0 ≤ a ∧ a ≤ 1) ∧ 0 ≤ q ∧ q ≤ (Q : Int) - 1) := by
        intro ⟨h3, h4⟩; rw [inB_true.2 h3, inB_true.2 h4] at h2; cases h2
      have h5 : (true && inB a 0 1 && inB q 0 ((Q : Int) - 1)) = false := by simpa using h2
      rw [h5]
      simp only [Bool.false_eq_true, if_false]
      refine (find_none _ _ _ _ fun j hj => ?_).symm
      have k := cellsL_class S R Q j hj
      rw [List.getElem?_eq_getElem hj] at k
      generalize (cellsL S R Q)[j] = c at *
      obtain ⟨c1, c2, c3⟩ := c
      simp only [isC]
      rcases k with ⟨_, k⟩ | ⟨i, t, hi, ht, e, k⟩ | ⟨i, t, hi, ht, e, k⟩ <;> simp only [segC, areC, Option.some.injEq] at k <;> (try split at k) <;> (try split at k) <;> simp only [Prod.mk.injEq] at k <;>
        (simp only [Bool.and_eq_false_iff, beq_eq_false_iff_ne, ne_eq]; omega)

theorem divmod (i t m : Nat) (h : t < m) : (i * m + t) / m = i ∧ (i * m + t) % m = t := by
  have h0 : 0 < m := by omega
  constructor
  · rw [Nat.mul_comm, Nat.mul_add_div h0, Nat.div_eq_of_lt h]; omega
  · rw [Nat.mul_comm, Nat.mul_add_mod, Nat.mod_eq_of_lt h]
theorem divmodI (i t m : Nat) (h : t < m) : ((i * m + t : Nat) : Int) / (m : Int) = i ∧ ((i * m + t : Nat) : Int) % (m : Int) = t := by
  obtain ⟨h1, h2⟩ := divmod i t m h
  constructor
  · rw [← Int.natCast_ediv, h1]
  · rw [← Int.natCast_emod, h2]

theorem tell_what (s r p b : Int) : whatF s r p b = rwhatF s r p b := by
  unfold whatF rwhatF
  by_cases h0 : b < 0
  · rw [if_pos (.inl h0), if_pos h0]
  rw [if_neg h0]
  obtain ⟨B, rfl⟩ := Int.eq_ofNat_of_zero_le (show 0 ≤ b by omega)
  have hlen := cellsF_length s r p
  by_cases h1 : blocksF s r p ≤ B
  · rw [if_pos (.inr h1), Int.toNat_natCast, List.getElem?_eq_none (by omega)]
  · rw [if_neg (by omega), Int.toNat_natCast]
    have hR := (blocks_le s r p).2 (by omega)
    obtain ⟨S, R, Q, rfl, rfl, rfl, _, _, _, _, _, _, hc⟩ := lift3 hR
    rw [hc] at hlen ⊢
    have hB : B < (cellsL S R Q).length := by omega
    unfold ofF
    rcases cellsL_class S R Q B hB with ⟨hb, k⟩ | ⟨i, t, hi, ht, e, k⟩ | ⟨i, t, hi, ht, e, k⟩
    · rw [k, if_pos (by omega)]
      simp only
      push_cast
      rfl
    · obtain ⟨d1, d2⟩ := divmodI i t (R + 2) ht
      have e1 : (B : Int) - 6 = ((i * (R + 2) + t : Nat) : Int) := by omega
      have e2 : (R : Int) + 2 = ((R + 2 : Nat) : Int) := by push_cast; rfl
      have hlt : (B : Int) < 6 + (S : Int) * ((R : Int) + 2) := by
        have : (i + 1) * (R + 2) ≤ S * (R + 2) := Nat.mul_le_mul_right _ hi
        rw [Nat.add_mul] at this
        rw [e2, ← Int.natCast_mul]; omega
      rw [k, if_neg (by omega), if_pos hlt, e1, e2, d1, d2]
      unfold segC
      by_cases ht0 : t = 0
      · rw [if_pos (by omega), if_pos ht0]; simp
      by_cases ht1 : t = R + 1
      · rw [if_neg (by omega), if_pos (by omega), if_neg ht0, if_pos ht1]; simp
      · rw [if_neg (by omega), if_neg (by omega), if_neg ht0, if_neg ht1]; simp; omega
    · obtain ⟨d1, d2⟩ := divmodI i t (Q + 1) ht
      have e0 : (S : Int) * ((R : Int) + 2) = ((S * (R + 2) : Nat) : Int) := by push_cast; rfl
      have e1 : (B : Int) - (6 + (S : Int) * ((R : Int) + 2)) = ((i * (Q + 1) + t : Nat) : Int) := by rw [e0]; omega
      have e2 : (Q : Int) + 1 = ((Q + 1 : Nat) : Int) := by push_cast; rfl
      have hge : ¬ (B : Int) < 6 + (S : Int) * ((R : Int) + 2) := by rw [e0]; omega
      have hge6 : ¬ (B : Int) < 6 := by omega
      rw [k, if_neg hge6, if_neg hge, e1, e2, d1, d2]
      unfold areC
      by_cases ht0 : t = 0
      · rw [if_pos (by omega), if_pos ht0]; simp
      · rw [if_neg (by omega), if_neg ht0]; simp; omega

end Go.Proofs.Ytbknabgimjkcoaa
