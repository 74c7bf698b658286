/-
  A letter is right by the program just where it is by the document.
-/
import Derived.Test.YtcapapnhlkmeaaaGreatDoorM43
import Derived.Test.YtcapapnhlkmeaaaGreatDoorM24
namespace Go.Proofs.YtcapapnhlkmeaaaGreatDoor
open Go.RowKit

theorem beq0 (x : Int) : ((0 : Int) == x) = (x == 0) := by rw [Bool.eq_iff_iff]; simp only [beq_iff_eq]; exact eq_comm
theorem beqF (b : Bool) : (false == b) = !b := by cases b <;> rfl
theorem beqS (x : Int) : (x == x) = true := by simp
theorem beqB (x : Bool) : (x == x) = true := by simp
theorem eqI_self (p : Id) : eqI p p = true := by simp [eqI]
theorem eqI_zero (p : Id) : eqI Id.zero p = zeroId p.i p.t p.k := by
  unfold eqI zeroId Id.zero
  simp only [beq0]
theorem right_same (l : Let) : rightL l = rightD l := by
  unfold rightL rightD
  by_cases h1 : l.kind = 1
  · have ho : l.own = l.o1 := by unfold Let.own; rw [if_pos h1]
    have hk : l.ok = (okT l && l.last.right) := by unfold Let.ok; rw [if_pos h1]
    rw [ho, hk, if_pos h1]
    simp only [okT, b1, bareD, noneOk, plainEq, Let.o1, Let.base, eqI_self, eqI_zero, beq0, beqF, Id.right, Bool.true_or, Bool.false_or, Bool.true_and, List.length_nil, Int.cast_ofNat_Int]
    ac_rfl
  by_cases h2 : l.kind = 2
  · have ho : l.own = l.o2 := by unfold Let.own; rw [if_neg h1, if_pos h2]
    have hk : l.ok = (ok0 l) := by unfold Let.ok; rw [if_neg h1, if_pos h2]
    rw [ho, hk, if_neg h1, if_pos h2]
    simp only [b2, bareD, noneOk, plainEq, Let.o2, Let.base, eqI_zero, beq0, beqB, Bool.true_or, Bool.false_or, Bool.true_and, List.length_nil, Int.cast_ofNat_Int]
    ac_rfl
  by_cases h3 : l.kind = 3
  · have ho : l.own = l.o3 := by unfold Let.own; rw [if_neg h1, if_neg h2, if_pos h3]
    have hk : l.ok = (okT l && (l.prev.right && (inR l.commit 0 1099511627776 && rowOk l))) := by unfold Let.ok; rw [if_neg h1, if_neg h2, if_pos h3]
    rw [ho, hk, if_neg h1, if_neg h2, if_pos h3]
    simp only [okT, b3, bareD, noneOk, plainEq, Let.o3, Let.base, eqI_self, eqI_zero, beq0, beqF, beqS, Id.right, Bool.true_or, Bool.false_or, Bool.true_and, List.length_nil, Int.cast_ofNat_Int]
    ac_rfl
  by_cases h4 : l.kind = 4
  · have ho : l.own = l.o4 := by unfold Let.own; rw [if_neg h1, if_neg h2, if_neg h3, if_pos h4]
    have hk : l.ok = (ok0 l && inR l.index 0 1099511627776) := by unfold Let.ok; rw [if_neg h1, if_neg h2, if_neg h3, if_pos h4]
    rw [ho, hk, if_neg h1, if_neg h2, if_neg h3, if_pos h4]
    simp only [b4, bareD, noneOk, plainEq, Let.o4, Let.base, eqI_zero, beq0, beqS, beqB, Bool.true_or, Bool.false_or, Bool.true_and, List.length_nil, Int.cast_ofNat_Int]
    ac_rfl
  by_cases h5 : l.kind = 5
  · have ho : l.own = l.o5 := by unfold Let.own; rw [if_neg h1, if_neg h2, if_neg h3, if_neg h4, if_pos h5]
    have hk : l.ok = (okT l && carriedOk l) := by unfold Let.ok; rw [if_neg h1, if_neg h2, if_neg h3, if_neg h4, if_pos h5]
    rw [ho, hk, if_neg h1, if_neg h2, if_neg h3, if_neg h4, if_pos h5]
    simp only [okT, b5, bareD, noneOk, plainEq, Let.o5, Let.base, eqI_self, eqI_zero, beq0, beqF, beqS, Bool.true_or, Bool.false_or, Bool.true_and, Bool.and_true, List.length_nil, Int.cast_ofNat_Int]
    ac_rfl
  by_cases h6 : l.kind = 6
  · have ho : l.own = l.o6 := by unfold Let.own; rw [if_neg h1, if_neg h2, if_neg h3, if_neg h4, if_neg h5, if_pos h6]
    have hk : l.ok = (ok0 l && (l.last.some_ && inR l.piece 0 48)) := by unfold Let.ok; rw [if_neg h1, if_neg h2, if_neg h3, if_neg h4, if_neg h5, if_pos h6]
    rw [ho, hk, if_neg h1, if_neg h2, if_neg h3, if_neg h4, if_neg h5, if_pos h6]
    simp only [b6, bareD, noneOk, plainEq, Let.o6, Let.base, eqI_self, eqI_zero, beq0, beqS, beqB, Id.some_, Bool.true_or, Bool.false_or, Bool.true_and, Bool.and_true, List.length_nil, Int.cast_ofNat_Int]
    ac_rfl
  by_cases h7 : l.kind = 7
  · by_cases hw : 0 < l.want.length
    · have ho : l.own = l.o7a := by unfold Let.own; rw [if_neg h1, if_neg h2, if_neg h3, if_neg h4, if_neg h5, if_neg h6, if_pos h7, if_pos hw]
      have hk : l.ok = (ok0 l && wantsOk l.want) := by unfold Let.ok; rw [if_neg h1, if_neg h2, if_neg h3, if_neg h4, if_neg h5, if_neg h6, if_pos h7, if_pos hw]
      rw [ho, hk, if_neg h1, if_neg h2, if_neg h3, if_neg h4, if_neg h5, if_neg h6, if_pos h7, if_pos hw]
      simp only [b7, bareD, noneOk, plainEq, Let.o7a, Let.base, eqI_zero, beq0, beqF, beqS, Bool.true_or, Bool.false_or, Bool.true_and, List.length_nil, Int.cast_ofNat_Int]
      ac_rfl
    · have ho : l.own = l.o7b := by unfold Let.own; rw [if_neg h1, if_neg h2, if_neg h3, if_neg h4, if_neg h5, if_neg h6, if_pos h7, if_neg hw]
      have hk : l.ok = (ok0 l && (l.last.some_ && inR l.piece 0 47)) := by unfold Let.ok; rw [if_neg h1, if_neg h2, if_neg h3, if_neg h4, if_neg h5, if_neg h6, if_pos h7, if_neg hw]
      rw [ho, hk, if_neg h1, if_neg h2, if_neg h3, if_neg h4, if_neg h5, if_neg h6, if_pos h7, if_neg hw]
      simp only [c7, bareD, noneOk, plainEq, Let.o7b, Let.base, eqI_self, eqI_zero, beq0, beqF, beqS, Id.some_, Bool.true_or, Bool.false_or, Bool.true_and, Bool.and_true, List.length_nil, Int.cast_ofNat_Int]
      ac_rfl
  by_cases h8 : l.kind = 8
  · by_cases hw : 0 < l.ents.length
    · have ho : l.own = l.o8a := by unfold Let.own; rw [if_neg h1, if_neg h2, if_neg h3, if_neg h4, if_neg h5, if_neg h6, if_neg h7, if_pos h8, if_pos hw]
      have hk : l.ok = (ok0 l && (goodsOk l.ents && aheadsOk l.ents l.want)) := by unfold Let.ok; rw [if_neg h1, if_neg h2, if_neg h3, if_neg h4, if_neg h5, if_neg h6, if_neg h7, if_pos h8, if_pos hw]
      rw [ho, hk, if_neg h1, if_neg h2, if_neg h3, if_neg h4, if_neg h5, if_neg h6, if_neg h7, if_pos h8, if_pos hw]
      simp only [b8, bareD, noneOk, plainEq, Let.o8a, Let.base, eqI_zero, beq0, beqF, beqS, Bool.true_or, Bool.false_or, Bool.true_and, List.length_nil, Int.cast_ofNat_Int]
      ac_rfl
    · have ho : l.own = l.o5 := by unfold Let.own; rw [if_neg h1, if_neg h2, if_neg h3, if_neg h4, if_neg h5, if_neg h6, if_neg h7, if_pos h8, if_neg hw]
      have hk : l.ok = (ok0 l && carriedOk l) := by unfold Let.ok; rw [if_neg h1, if_neg h2, if_neg h3, if_neg h4, if_neg h5, if_neg h6, if_neg h7, if_pos h8, if_neg hw]
      rw [ho, hk, if_neg h1, if_neg h2, if_neg h3, if_neg h4, if_neg h5, if_neg h6, if_neg h7, if_pos h8, if_neg hw]
      simp only [b5, bareD, noneOk, plainEq, Let.o5, Let.base, eqI_self, eqI_zero, beq0, beqF, beqS, Bool.true_or, Bool.false_or, Bool.true_and, Bool.and_true, List.length_nil, Int.cast_ofNat_Int]
      ac_rfl
  have hk : l.ok = false := by unfold Let.ok; rw [if_neg h1, if_neg h2, if_neg h3, if_neg h4, if_neg h5, if_neg h6, if_neg h7, if_neg h8]
  rw [hk, if_neg h1, if_neg h2, if_neg h3, if_neg h4, if_neg h5, if_neg h6, if_neg h7, if_neg h8, Bool.and_false, Bool.false_and]
theorem rrightL_any (l : Let) (w : World) (hin : l.inW w) : Calls Tryz.prog 10 #[l.v] w fun e w' => e = .returned (.bool (rightL l)) ∧ Ext w w' := by
  rw [right_same]
  exact rright_any2 l w hin
end Go.Proofs.YtcapapnhlkmeaaaGreatDoor
