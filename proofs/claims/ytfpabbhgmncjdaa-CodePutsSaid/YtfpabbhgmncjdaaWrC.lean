/-
  The writer of package code: Field, Text, Row.
-/
import Derived.Test.YtfpabbhgmncjdaaWrB
namespace Go.Proofs.Ytfpabbhgmncjdaa
open Go.RowKit

section
variable {B wb c : Nat} {A : Option Addr} {bs : List Int} {w : World}
def isB (wb : Nat) : Nat → Prop := fun i => i = wb
theorem isB_touched {i : Nat} (h : isB wb i) : touched wb A i := .inl h
theorem holds_ok (hW : Wr 37 B w wb A c bs false) :
    Calls Try.prog 28 #[.pointer (some ⟨wb, 0, none⟩), .bool true] w fun e w' => e = .returned (.bool true) ∧ Wr 37 B w' wb A c bs false ∧ Fr (isB wb) w w' :=
  (holds_any B wb A c bs false true w hW).mono fun e w' ⟨he, hw⟩ => ⟨he, by subst hw; simpa using hW.mark (by decide) false, by subst hw; exact (Fr.refl (isB wb) w).set (p := ⟨wb, 1, none⟩) (.inl rfl) _⟩
theorem holds_no (hW : Wr 37 B w wb A c bs false) :
    Calls Try.prog 28 #[.pointer (some ⟨wb, 0, none⟩), .bool false] w fun e w' => e = .returned (.bool false) ∧ Wr 37 B w' wb A c bs true ∧ Fr (isB wb) w w' :=
  (holds_any B wb A c bs false false w hW).mono fun e w' ⟨he, hw⟩ => ⟨he, by subst hw; simpa using hW.mark (by decide) true, by subst hw; exact (Fr.refl (isB wb) w).set (p := ⟨wb, 1, none⟩) (.inl rfl) _⟩
theorem holds_sp (is : Bool) (hW : Wr 37 B w wb A c bs true) :
    Calls Try.prog 28 #[.pointer (some ⟨wb, 0, none⟩), .bool is] w fun e w' => e = .returned (.bool false) ∧ Wr 37 B w' wb A c bs true ∧ Fr (isB wb) w w' :=
  (holds_any B wb A c bs true is w hW).mono fun e w' ⟨he, hw⟩ => ⟨by rw [he]; simp, by subst hw; simpa using hW.mark (by decide) true, by subst hw; exact (Fr.refl (isB wb) w).set (p := ⟨wb, 1, none⟩) (.inl rfl) _⟩
end

theorem Rd.fr' {S : Nat → Prop} {w w' : World} {A : Option Addr} {k : IntKind} {zs : List Int} (h : Rd w A (zs.map (.int k))) (hf : Fr S w w') (ho : zs ≠ [] → Off S A) : Rd w' A (zs.map (.int k)) := by
  by_cases hz : zs = []
  · subst hz; exact Rd.nil _ _
  · exact h.fr hf (ho hz)

def okN (wd n : Int) : Bool := decide (0 ≤ n) && decide (n ≤ topI wd)
theorem okN_iff {wd n : Int} : okN wd n = true ↔ 0 ≤ n ∧ n ≤ topI wd := by simp [okN]
def putF (wd : Int) : List Int → List Int → List Int × Bool
  | bs, [] => (bs, false)
  | bs, n :: ns => if okN wd n = true then putF wd (bs ++ leB wd.toNat n) ns else (bs, true)
def fieldS (wd : Int) (bs : List Int) (sp : Bool) (ns : List Int) : List Int × Bool := if sp = true then (bs, true) else if topI wd < 0 then (bs, true) else putF wd bs ns

theorem toNat_le (wd : Int) (h : 0 ≤ topI wd) : wd.toNat ≤ 6 := by
  rcases topI_cases wd with ⟨rfl, _⟩ | ⟨rfl, _⟩ | ⟨rfl, _⟩ | ⟨rfl, _⟩ | ⟨_, h'⟩ <;> omega

theorem drop_at {α : Type} {l : List α} {k : Nat} {x : α} (h : l[k]? = some x) : l.drop k = x :: l.drop (k + 1) := by
  have hl : k < l.length := by
    rcases Nat.lt_or_ge k l.length with g | g
    · exact g
    · rw [List.getElem?_eq_none g] at h; cases h
  rw [List.drop_eq_getElem_cons hl]
  rw [List.getElem?_eq_getElem hl] at h
  injection h with h
  rw [h]

def FieldRel (B wb : Nat) (A : Option Addr) (bs : List Int) (wd : Int) (zs : List Int) (w : World) (i : Value) (wr : World) : Prop :=
  ∃ (k : Nat) (A' : Option Addr) (c' : Nat) (bk : List Int), k ≤ zs.length ∧ i = .int .i64 k ∧ Wr 37 B wr wb A' c' bk false ∧ putF wd bk (zs.drop k) = putF wd bs zs ∧
    Fr (touched wb A) w wr ∧ (∀ i, blk A' i → blk A i ∨ w.heap.size ≤ i) ∧ bk.length ≤ bs.length + 6 * k

theorem frT {wb : Nat} {A A' : Option Addr} {w w1 w2 : World} (hf : Fr (touched wb A) w w1) (hA : ∀ i, blk A' i → blk A i ∨ w.heap.size ≤ i) (h2 : Fr (touched wb A') w1 w2) : Fr (touched wb A) w w2 := hf.trans h2 (touched_sub hA)
theorem frI {wb : Nat} {A : Option Addr} {w w1 : World} (h : Fr (isB wb) w w1) : Fr (touched wb A) w w1 := h.mono fun _ _ hi => .inl hi

set_option maxHeartbeats 600000 in
theorem field_any (B wb : Nat) (A : Option Addr) (c : Nat) (bs : List Int) (sp : Bool) (wd : Int) (D : Option Addr) (d : Nat) (zs : List Int) (w : World) (hW : Wr 37 B w wb A c bs sp) (hB : B ≤ w.heap.size)
    (hD : Rd w D (zs.map (.int .i64))) (hO : zs ≠ [] → Off (touched wb A) D) (hl : bs.length + 6 * zs.length ≤ 100000000000) :
    Calls Try.prog 7 #[.pointer (some ⟨wb, 0, none⟩), .int .i64 wd, .slice D zs.length d] w fun e w' => e = .returned (.tuple #[]) ∧ WStep 37 B wb A w (fieldS wd bs sp zs).1 (fieldS wd bs sp zs).2 w' := by
  cases sp with
  | true =>
    go_enter Try.func7, Try.ntmps7
    go_wp2_with (first | (go_at_call 29; refine (top_any _ _).mono ?_; rintro e w' ⟨rfl, rfl⟩) | (go_at_call 28; refine (holds_sp _ hW).mono ?_; rintro e w1 ⟨rfl, hW1, hF1⟩))
    refine bodyPost_ret (results_none rfl _ _ _) rfl ?_
    exact ⟨rfl, A, c, hW1, frI hF1, fun _ h => .inl h⟩
  | false =>
    by_cases hT : topI wd < 0
    · have hd : decide (0 ≤ topI wd) = false := by simp; omega
      go_enter Try.func7, Try.ntmps7
      go_wp2_with (first | (go_at_call 29; refine (top_any _ _).mono ?_; rintro e w' ⟨rfl, rfl⟩) | (go_at_call 28; refine (holds_no hW).mono ?_; rintro e w1 ⟨rfl, hW1, hF1⟩))
      refine bodyPost_ret (results_none rfl _ _ _) rfl ?_
      have hs : fieldS wd bs false zs = (bs, true) := by simp [fieldS, hT]
      rw [hs]
      exact ⟨rfl, A, c, hW1, frI hF1, fun _ h => .inl h⟩
    · have hs : fieldS wd bs false zs = putF wd bs zs := by simp [fieldS, hT]
      rw [hs]
      clear hs
      have hT0 : 0 ≤ topI wd := by omega
      have hbd := (topI_bd wd).2
      have h6 := toNat_le wd hT0
      have hd : decide (0 ≤ topI wd) = true := by simp; omega
      go_enter Try.func7, Try.ntmps7
      go_wp2_with (first | (go_at_call 29; refine (top_any _ _).mono ?_; rintro e w' ⟨rfl, rfl⟩) | (go_at_call 28; refine (holds_ok hW).mono ?_; rintro e w1 ⟨rfl, hW1, hF1⟩))
      go_loopw [16] (fun i wr => FieldRel B wb A bs wd zs w i wr) (fun i _ => zs.length - (intOf i).toNat)
      case atStart => exact ⟨0, A, c, bs, Nat.zero_le _, rfl, hW1, rfl, frI hF1, fun _ h => .inl h, by omega⟩
      case round =>
        clear hW1 hF1
        obtain ⟨k, A2, c2, bk, hk, rfl, hW2, hp, hF2, hA2, hl2⟩ := hrel
        have HP := Lib.hid hp
        have HA2 := Lib.hid hA2
        clear hp hA2
        by_cases hlt : k < zs.length
        · obtain ⟨ad, x, rfl, hcx, hx1⟩ := (hD.fr hF2 (hO (by rintro rfl; simp at hlt))).int hlt
          have HX := Lib.hid (drop_at hx1)
          clear hx1
          have hsz := hF2.size
          by_cases h0 : 0 ≤ x
          · have hd0 : decide (0 ≤ x) = true := by simp; omega
            by_cases h1 : x ≤ topI wd
            · have hd1 : decide (x ≤ topI wd) = true := by simp; omega
              have hok : Hid (putF wd bk (zs.drop k) = putF wd (bk ++ leB wd.toNat x) (zs.drop (k + 1))) := Lib.hid (by rw [HX.out, putF, if_pos (okN_iff.2 ⟨h0, h1⟩)])
              go_wp2_with (first | (go_at_call 29; refine (top_any _ _).mono ?_; rintro e w' ⟨rfl, rfl⟩) | (go_at_call 28; refine (holds_ok hW2).mono ?_; rintro e w3 ⟨rfl, hW3, hF3⟩) | (go_at_call 30; refine (number_any B wb _ _ bk false wd x _ hW3 (by have := hF3.size; omega) (by omega) h0 h1).mono ?_; rintro e w4 ⟨rfl, hS4⟩))
              obtain ⟨A4, c4, hW4, hF4, hA4⟩ := hS4
              have hF34 : Fr (touched wb A2) wr w4 := (frI hF3).trans hF4 (fun _ _ h => h)
              exact ⟨⟨k + 1, A4, c4, _, by omega, by go_num, hW4, by rw [← hok.out]; exact HP.out, frT hF2 HA2.out hF34, fun i hi => (hA4 i hi).elim (fun h => HA2.out i h) (fun h => .inr (by have := hF3.size; omega)), by rw [List.length_append, leB_length]; omega⟩, by simp [intOf]; omega⟩
            · have hd1 : decide (x ≤ topI wd) = false := by simp; omega
              have hno : Hid (putF wd bk (zs.drop k) = (bk, true)) := Lib.hid (by rw [HX.out, putF, if_neg (fun h => h1 (okN_iff.1 h).2)])
              go_wp2_with (first | (go_at_call 29; refine (top_any _ _).mono ?_; rintro e w' ⟨rfl, rfl⟩) | (go_at_call 28; refine (holds_no hW2).mono ?_; rintro e w3 ⟨rfl, hW3, hF3⟩))
              refine bodyPost_ret (results_none rfl _ _ _) rfl ?_
              rw [← HP.out, hno.out]
              exact ⟨rfl, A2, c2, hW3, frT hF2 HA2.out (frI hF3), HA2.out⟩
          · have hd0 : decide (0 ≤ x) = false := by simp; omega
            have hno : Hid (putF wd bk (zs.drop k) = (bk, true)) := Lib.hid (by rw [HX.out, putF, if_neg (fun h => h0 (okN_iff.1 h).1)])
            go_wp2_with (first | (go_at_call 29; refine (top_any _ _).mono ?_; rintro e w' ⟨rfl, rfl⟩) | (go_at_call 28; refine (holds_no hW2).mono ?_; rintro e w3 ⟨rfl, hW3, hF3⟩))
            refine bodyPost_ret (results_none rfl _ _ _) rfl ?_
            rw [← HP.out, hno.out]
            exact ⟨rfl, A2, c2, hW3, frT hF2 HA2.out (frI hF3), HA2.out⟩
        · obtain rfl : k = zs.length := by omega
          go_wp2
          go_end0
          have h := HP.out
          rw [List.drop_length] at h
          rw [← h]
          exact ⟨rfl, A2, c2, hW2, hF2, HA2.out⟩
end Go.Proofs.Ytfpabbhgmncjdaa
