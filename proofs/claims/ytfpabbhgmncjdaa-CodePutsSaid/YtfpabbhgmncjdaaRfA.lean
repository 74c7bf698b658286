/-
  The document's writer: top, Field, Fields.
-/
import Derived.Test.YtfpabbhgmncjdaaWrG
namespace Go.Proofs.Ytfpabbhgmncjdaa
open Go.RowKit

theorem rtop_any (x : Int) (w : World) : Calls Try.prog 39 #[.int .i64 x] w fun e w' => e = .returned (.int .i64 (topI x)) ∧ w = w' := by
  rcases topI_cases x with ⟨rfl, h⟩ | ⟨rfl, h⟩ | ⟨rfl, h⟩ | ⟨rfl, h⟩ | ⟨⟨h1, h2, h4, h6⟩, h⟩
  · go_enter Try.func39, Try.ntmps39
    go_wp2
    go_ret
    exact ⟨rfl, rfl⟩
  · go_enter Try.func39, Try.ntmps39
    go_wp2
    go_ret
    exact ⟨rfl, rfl⟩
  · go_enter Try.func39, Try.ntmps39
    go_wp2
    go_ret
    exact ⟨rfl, rfl⟩
  · go_enter Try.func39, Try.ntmps39
    go_wp2
    go_ret
    exact ⟨rfl, rfl⟩
  · rw [h]
    have b1 : (x == 1) = false := by simpa using h1
    have b2 : (x == 2) = false := by simpa using h2
    have b4 : (x == 4) = false := by simpa using h4
    have b6 : (x == 6) = false := by simpa using h6
    clear h h1 h2 h4 h6
    go_enter Try.func39, Try.ntmps39
    go_wp2
    go_ret
    exact ⟨rfl, rfl⟩

theorem leB_snoc (k : Nat) (n : Int) : leB (k + 1) n = leB k n ++ [n / 256 ^ k % 256] := by
  induction k generalizing n with
  | zero => simp [leB]
  | succ k ih =>
    rw [leB, ih (n / 256)]
    simp only [leB, List.cons_append]
    congr 3
    rw [Int.ediv_ediv_of_nonneg (by decide), Int.pow_succ, Int.mul_comm]
theorem pow_step (n : Int) (k : Nat) : n / 256 ^ k / 256 = n / 256 ^ (k + 1) := by
  rw [Int.ediv_ediv_of_nonneg (Int.pow_nonneg (by decide)), Int.pow_succ]

def rfieldS (wd : Int) (bs : List Int) (sp : Bool) (n : Int) : List Int × Bool := if okN wd n = true then (bs ++ leB wd.toNat n, sp) else (bs, true)

def RFieldRel (B wb : Nat) (A : Option Addr) (bs : List Int) (sp : Bool) (wd : Nat) (n : Int) (w : World) (v i : Value) (wr : World) : Prop :=
  ∃ (k : Nat) (m : Int) (A' : Option Addr) (c' : Nat), k ≤ wd ∧ i = .int .i64 k ∧ v = .int .i64 m ∧ m = n / 256 ^ k ∧ 0 ≤ m ∧ m ≤ n ∧ WP 48 B wb A w (bs ++ leB k n) sp wr A' c'

set_option maxHeartbeats 600000 in
theorem rfield_any (B wb : Nat) (A : Option Addr) (c : Nat) (bs : List Int) (sp : Bool) (wd n : Int) (w : World) (hW : Wr 48 B w wb A c bs sp) (hB : B ≤ w.heap.size) (hl : bs.length ≤ 100000000000) :
    Calls Try.prog 40 #[.pointer (some ⟨wb, 0, none⟩), .int .i64 wd, .int .i64 n] w fun e w' => e = .returned (.tuple #[]) ∧ WStep 48 B wb A w (rfieldS wd bs sp n).1 (rfieldS wd bs sp n).2 w' := by
  have hc1 := hW.c1
  have hf1 := hW.f 1
  have hend : WStep 48 B wb A w bs true (w.setCell ⟨wb, 1, none⟩ (.bool true)) := hW.step (by decide) true
  have HE := Lib.hid hend
  clear hend
  by_cases h0 : 0 ≤ n
  · have hd0 : decide (n < 0) = false := by simp; omega
    by_cases h1 : n ≤ topI wd
    · have hd1 : decide (topI wd < n) = false := by simp; omega
      have hT0 : 0 ≤ topI wd := by omega
      have hbd := (topI_bd wd).2
      have h6 := toNat_le wd hT0
      have hwd : 0 ≤ wd := by rcases topI_cases wd with ⟨rfl, _⟩ | ⟨rfl, _⟩ | ⟨rfl, _⟩ | ⟨rfl, _⟩ | ⟨_, h'⟩ <;> omega
      have hs : Hid (rfieldS wd bs sp n = (bs ++ leB wd.toNat n, sp)) := Lib.hid (by rw [rfieldS, if_pos (okN_iff.2 ⟨h0, h1⟩)])
      obtain ⟨wn, rfl⟩ : ∃ wn : Nat, wd = wn := ⟨wd.toNat, by omega⟩
      rw [Int.toNat_natCast] at hs h6
      go_enter Try.func40, Try.ntmps40
      go_wp2_with (go_at_call 39; refine (rtop_any _ _).mono ?_; rintro e w' ⟨rfl, rfl⟩)
      go_loopw [2, 6] (fun v i wr => RFieldRel B wb A bs sp wn n w v i wr) (fun _ i _ => wn - (intOf i).toNat)
      case atStart => exact ⟨0, n, A, c, Nat.zero_le _, rfl, rfl, by simp, h0, Int.le_refl _, by simpa [leB] using WP.start hW⟩
      case round =>
        obtain ⟨k, m, A2, c2, hk, rfl, rfl, hm, hm0, hm1, P2⟩ := hrel
        have HM := Lib.hid hm
        clear hm hc1 hf1
        by_cases hlt : k < wn
        · have h20 := P2.1.c0
          have hsz := P2.size
          have P2a := P2.ext ((Ext.refl wr).alloc (.cells #[.int .u8 (m % 256)] 5))
          have h20a := P2a.1.c0
          go_wp2_with (at_builtin; refine appendBytes _ rfl _ _ rfl B _ _ _ (bs ++ leB k n) rfl (by simp) P2a.1.2.2 _ _ _ [m % 256] rfl rfl (rd_one _ _ _) (by simp [leB_length]; omega) (by simp; omega) ?_; intro A3 c3 m3 w3 hm3 hown3 hfr3 hA3; obtain ⟨hc3, hf3, hS3⟩ := P2a.1.app (by decide) hown3 hfr3 hA3 hm3; clear hown3 hfr3 hA3 hm3)
          obtain ⟨A4, c4, P4⟩ := P2a.step hS3
          have hl4 : bs ++ leB k n ++ [m % 256] = bs ++ leB (k + 1) n := by rw [leB_snoc, ← HM.out, List.append_assoc]
          rw [hl4] at P4
          exact ⟨⟨k + 1, m / 256, A4, c4, by omega, by go_num, rfl, by rw [HM.out, pow_step], by omega, by omega, P4⟩, by simp [intOf]; omega⟩
        · obtain rfl : k = wn := by omega
          go_wp2
          go_end0
          rw [hs.out]
          exact ⟨rfl, P2.done⟩
    · have hd1 : decide (topI wd < n) = true := by simp; omega
      have hs : Hid (rfieldS wd bs sp n = (bs, true)) := Lib.hid (by rw [rfieldS, if_neg (fun h => h1 (okN_iff.1 h).2)])
      go_enter Try.func40, Try.ntmps40
      go_wp2_with (go_at_call 39; refine (rtop_any _ _).mono ?_; rintro e w' ⟨rfl, rfl⟩)
      refine bodyPost_ret (results_none rfl _ _ _) rfl ?_
      rw [hs.out]
      exact ⟨rfl, HE.out⟩
  · have hd0 : decide (n < 0) = true := by simp; omega
    have hs : Hid (rfieldS wd bs sp n = (bs, true)) := Lib.hid (by rw [rfieldS, if_neg (fun h => h0 (okN_iff.1 h).1)])
    go_enter Try.func40, Try.ntmps40
    go_wp2_with (go_at_call 39; refine (rtop_any _ _).mono ?_; rintro e w' ⟨rfl, rfl⟩)
    refine bodyPost_ret (results_none rfl _ _ _) rfl ?_
    rw [hs.out]
    exact ⟨rfl, HE.out⟩
end Go.Proofs.Ytfpabbhgmncjdaa
