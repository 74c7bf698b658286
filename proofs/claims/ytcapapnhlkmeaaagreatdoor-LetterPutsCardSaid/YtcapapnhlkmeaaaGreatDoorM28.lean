/-
  The document's writer: top, Field, Fields.
  The document's writer: Fields, Text, Row, Entry, Bytes.
-/
import Derived.Test.YtcapapnhlkmeaaaGreatDoorM6
namespace Go.Proofs.YtcapapnhlkmeaaaGreatDoor
open Go.RowKit

theorem rtop_any (x : Int) (w : World) : Calls Tryz.prog 73 #[.int .i64 x] w fun e w' => e = .returned (.int .i64 (topI x)) ∧ w = w' := by
  rcases topI_cases x with ⟨rfl, h⟩ | ⟨rfl, h⟩ | ⟨rfl, h⟩ | ⟨rfl, h⟩ | ⟨⟨h1, h2, h4, h6⟩, h⟩
  · go_enter Tryz.func73, Tryz.ntmps73
    go_wp2
    go_ret
    exact ⟨rfl, rfl⟩
  · go_enter Tryz.func73, Tryz.ntmps73
    go_wp2
    go_ret
    exact ⟨rfl, rfl⟩
  · go_enter Tryz.func73, Tryz.ntmps73
    go_wp2
    go_ret
    exact ⟨rfl, rfl⟩
  · go_enter Tryz.func73, Tryz.ntmps73
    go_wp2
    go_ret
    exact ⟨rfl, rfl⟩
  · rw [h]
    have b1 : (x == 1) = false := by simpa using h1
    have b2 : (x == 2) = false := by simpa using h2
    have b4 : (x == 4) = false := by simpa using h4
    have b6 : (x == 6) = false := by simpa using h6
    clear h h1 h2 h4 h6
    go_enter Tryz.func73, Tryz.ntmps73
    go_wp2
    go_ret
    exact ⟨rfl, rfl⟩

theorem leB_snoc (k : Nat) (n : Int) : leB (k + 1) n = leB k n ++ [n / 256 ^ k % 256] := by
  induction k generalizing n with
  | zero => simp [leB]
  | succ k ih =>
    rw [leB, ih (n / 256)]
    simp only [leB, List.cons_append]
    congr 3
    rw [Int.ediv_ediv_of_nonneg (by decide), Int.pow_succ, Int.mul_comm]
theorem pow_step (n : Int) (k : Nat) : n / 256 ^ k / 256 = n / 256 ^ (k + 1) := by
  rw [Int.ediv_ediv_of_nonneg (Int.pow_nonneg (by decide)), Int.pow_succ]

def rfieldS (wd : Int) (bs : List Int) (sp : Bool) (n : Int) : List Int × Bool := if okN wd n = true then (bs ++ leB wd.toNat n, sp) else (bs, true)

def RFieldRel (B wb : Nat) (A : Option Addr) (bs : List Int) (sp : Bool) (wd : Nat) (n : Int) (w : World) (v i : Value) (wr : World) : Prop :=
  ∃ (k : Nat) (m : Int) (A' : Option Addr) (c' : Nat), k ≤ wd ∧ i = .int .i64 k ∧ v = .int .i64 m ∧ m = n / 256 ^ k ∧ 0 ≤ m ∧ m ≤ n ∧ WP 68 B wb A w (bs ++ leB k n) sp wr A' c'

set_option maxHeartbeats 600000 in
theorem rfield_any (B wb : Nat) (A : Option Addr) (c : Nat) (bs : List Int) (sp : Bool) (wd n : Int) (w : World) (hW : Wr 68 B w wb A c bs sp) (hB : B ≤ w.heap.size) (hl : bs.length ≤ 100000000000) :
    Calls Tryz.prog 25 #[.pointer (some ⟨wb, 0, none⟩), .int .i64 wd, .int .i64 n] w fun e w' => e = .returned (.tuple #[]) ∧ WStep 68 B wb A w (rfieldS wd bs sp n).1 (rfieldS wd bs sp n).2 w' := by
  have hc1 := hW.c1
  have hf1 := hW.f 1
  have hend : WStep 68 B wb A w bs true (w.setCell ⟨wb, 1, none⟩ (.bool true)) := hW.step (by decide) true
  have HE := Lib.hid hend
  clear hend
  by_cases h0 : 0 ≤ n
  · have hd0 : decide (n < 0) = false := by simp; omega
    by_cases h1 : n ≤ topI wd
    · have hd1 : decide (topI wd < n) = false := by simp; omega
      have hT0 : 0 ≤ topI wd := by omega
      have hbd := (topI_bd wd).2
      have h6 := toNat_le wd hT0
      have hwd : 0 ≤ wd := by rcases topI_cases wd with ⟨rfl, _⟩ | ⟨rfl, _⟩ | ⟨rfl, _⟩ | ⟨rfl, _⟩ | ⟨_, h'⟩ <;> omega
      have hs : Hid (rfieldS wd bs sp n = (bs ++ leB wd.toNat n, sp)) := Lib.hid (by rw [rfieldS, if_pos (okN_iff.2 ⟨h0, h1⟩)])
      obtain ⟨wn, rfl⟩ : ∃ wn : Nat, wd = wn := ⟨wd.toNat, by omega⟩
      rw [Int.toNat_natCast] at hs h6
      go_enter Tryz.func25, Tryz.ntmps25
      go_wp2_with (go_at_call 73; refine (rtop_any _ _).mono ?_; rintro e w' ⟨rfl, rfl⟩)
      go_loopw [2, 6] (fun v i wr => RFieldRel B wb A bs sp wn n w v i wr) (fun _ i _ => wn - (intOf i).toNat)
      case atStart => exact ⟨0, n, A, c, Nat.zero_le _, rfl, rfl, by simp, h0, Int.le_refl _, by simpa [leB] using WP.start hW⟩
      case round =>
        obtain ⟨k, m, A2, c2, hk, rfl, rfl, hm, hm0, hm1, P2⟩ := hrel
        have HM := Lib.hid hm
        clear hm hc1 hf1
        by_cases hlt : k < wn
        · have h20 := P2.1.c0
          have hsz := P2.size
          have P2a := P2.ext ((Ext.refl wr).alloc (.cells #[.int .u8 (m % 256)] 5))
          have h20a := P2a.1.c0
          go_wp2_with (at_builtin; refine appendBytes _ rfl _ _ rfl B _ _ _ (bs ++ leB k n) rfl (by simp) P2a.1.2.2 _ _ _ [m % 256] rfl rfl (rd_one _ _ _) (by simp [leB_length]; omega) (by simp; omega) ?_; intro A3 c3 m3 w3 hm3 hown3 hfr3 hA3; obtain ⟨hc3, hf3, hS3⟩ := P2a.1.app (by decide) hown3 hfr3 hA3 hm3; clear hown3 hfr3 hA3 hm3)
          obtain ⟨A4, c4, P4⟩ := P2a.step hS3
          have hl4 : bs ++ leB k n ++ [m % 256] = bs ++ leB (k + 1) n := by rw [leB_snoc, ← HM.out, List.append_assoc]
          rw [hl4] at P4
          exact ⟨⟨k + 1, m / 256, A4, c4, by omega, by go_num, rfl, by rw [HM.out, pow_step], by omega, by omega, P4⟩, by simp [intOf]; omega⟩
        · obtain rfl : k = wn := by omega
          go_wp2
          go_end0
          rw [hs.out]
          exact ⟨rfl, P2.done⟩
    · have hd1 : decide (topI wd < n) = true := by simp; omega
      have hs : Hid (rfieldS wd bs sp n = (bs, true)) := Lib.hid (by rw [rfieldS, if_neg (fun h => h1 (okN_iff.1 h).2)])
      go_enter Tryz.func25, Tryz.ntmps25
      go_wp2_with (go_at_call 73; refine (rtop_any _ _).mono ?_; rintro e w' ⟨rfl, rfl⟩)
      refine bodyPost_ret (results_none rfl _ _ _) rfl ?_
      rw [hs.out]
      exact ⟨rfl, HE.out⟩
  · have hd0 : decide (n < 0) = true := by simp; omega
    have hs : Hid (rfieldS wd bs sp n = (bs, true)) := Lib.hid (by rw [rfieldS, if_neg (fun h => h0 (okN_iff.1 h).1)])
    go_enter Tryz.func25, Tryz.ntmps25
    go_wp2_with (go_at_call 73; refine (rtop_any _ _).mono ?_; rintro e w' ⟨rfl, rfl⟩)
    refine bodyPost_ret (results_none rfl _ _ _) rfl ?_
    rw [hs.out]
    exact ⟨rfl, HE.out⟩
end Go.Proofs.YtcapapnhlkmeaaaGreatDoor
namespace Go.Proofs.YtcapapnhlkmeaaaGreatDoor
open Go.RowKit

def rputs (wd : Int) (s : List Int × Bool) (zs : List Int) : List Int × Bool := zs.foldl (fun s n => rfieldS wd s.1 s.2 n) s
theorem rfieldS_len (wd : Int) (bs : List Int) (sp : Bool) (n : Int) : (rfieldS wd bs sp n).1.length ≤ bs.length + 6 := by
  unfold rfieldS
  split
  · rename_i h
    have h1 := okN_iff.1 h
    have h6 := toNat_le wd (by omega)
    simp [leB_length]; omega
  · simp

def PutsRel (B wb : Nat) (A : Option Addr) (bs : List Int) (wd : Int) (zs : List Int) (R : List Int × Bool) (w : World) (i : Value) (wr : World) : Prop :=
  ∃ (k : Nat) (A' : Option Addr) (c' : Nat) (bk : List Int) (sk : Bool), k ≤ zs.length ∧ i = .int .i64 k ∧ WP 68 B wb A w bk sk wr A' c' ∧ rputs wd (bk, sk) (zs.drop k) = R ∧ bk.length ≤ bs.length + 6 * k

def rfieldsS (wd : Int) (bs : List Int) (sp : Bool) (zs : List Int) : List Int × Bool := rputs wd (bs, if topI wd < 0 then true else sp) zs
set_option maxHeartbeats 600000 in
theorem rfields_any (B wb : Nat) (A : Option Addr) (c : Nat) (bs : List Int) (sp : Bool) (wd : Int) (D : Option Addr) (d : Nat) (zs : List Int) (w : World) (hW : Wr 68 B w wb A c bs sp) (hB : B ≤ w.heap.size)
    (hD : Rd w D (zs.map (.int .i64))) (hO : zs ≠ [] → Off (touched wb A) D) (hl : bs.length + 6 * zs.length ≤ 10000000000) :
    Calls Tryz.prog 24 #[.pointer (some ⟨wb, 0, none⟩), .int .i64 wd, .slice D zs.length d] w fun e w' => e = .returned (.tuple #[]) ∧ WStep 68 B wb A w (rfieldsS wd bs sp zs).1 (rfieldsS wd bs sp zs).2 w' := by
  have hc1 := hW.c1
  have hf1 := hW.f 1
  by_cases hT : topI wd < 0
  · have hd : decide (topI wd < 0) = true := by simp; omega
    have P1 : WP 68 B wb A w bs true (w.setCell ⟨wb, 1, none⟩ (.bool true)) A c := ⟨hW.mark (by decide) true, (Fr.refl (touched wb A) w).set (p := ⟨wb, 1, none⟩) (.inl (.inl rfl)) _, fun _ h => .inl h⟩
    have hs : rfieldsS wd bs sp zs = rputs wd (bs, true) zs := by simp [rfieldsS, hT]
    rw [hs]
    clear hs
    go_enter Tryz.func24, Tryz.ntmps24
    go_wp2_with (go_at_call 73; refine (rtop_any _ _).mono ?_; rintro e w' ⟨rfl, rfl⟩)
    · go_loopw [6] (fun i wr => PutsRel B wb A bs wd zs (rputs wd (bs, true) zs) w i wr) (fun i _ => zs.length - (intOf i).toNat)
      case atStart => exact ⟨0, A, c, bs, true, Nat.zero_le _, rfl, P1, rfl, by omega⟩
      case round =>
        obtain ⟨k, A2, c2, bk, sk, hk, rfl, P2, hp, hl2⟩ := hrel
        have HP := Lib.hid hp
        clear hp
        have hsz := P2.size
        by_cases hlt : k < zs.length
        · obtain ⟨ad, x, rfl, hcx, hx1⟩ := (P2.rd hD hO).int hlt
          have HX := Lib.hid (drop_at hx1)
          clear hx1
          have hlen := rfieldS_len wd bk sk x
          go_wp2_with fail
          refine (rfield_any B wb _ _ bk sk wd x _ P2.1 (by omega) (by omega)).mono ?_
          rintro e w4 ⟨rfl, hS4⟩
          obtain ⟨A4, c4, P4⟩ := P2.step hS4
          go_wp2
          exact ⟨⟨k + 1, A4, c4, _, _, by omega, by go_num, P4, by rw [← HP.out, HX.out]; rfl, by omega⟩, by simp [intOf]; omega⟩
        · obtain rfl : k = zs.length := by omega
          go_wp2
          go_end0
          have h := HP.out
          rw [List.drop_length] at h
          rw [← h]
          exact ⟨rfl, P2.done⟩

  · have hd : decide (topI wd < 0) = false := by simp; omega
    have hs : rfieldsS wd bs sp zs = rputs wd (bs, sp) zs := by simp [rfieldsS, hT]
    rw [hs]
    clear hs hc1 hf1
    go_enter Tryz.func24, Tryz.ntmps24
    go_wp2_with (go_at_call 73; refine (rtop_any _ _).mono ?_; rintro e w' ⟨rfl, rfl⟩)
    · go_loopw [6] (fun i wr => PutsRel B wb A bs wd zs (rputs wd (bs, sp) zs) w i wr) (fun i _ => zs.length - (intOf i).toNat)
      case atStart => exact ⟨0, A, c, bs, sp, Nat.zero_le _, rfl, WP.start hW, rfl, by omega⟩
      case round =>
        obtain ⟨k, A2, c2, bk, sk, hk, rfl, P2, hp, hl2⟩ := hrel
        have HP := Lib.hid hp
        clear hp
        have hsz := P2.size
        by_cases hlt : k < zs.length
        · obtain ⟨ad, x, rfl, hcx, hx1⟩ := (P2.rd hD hO).int hlt
          have HX := Lib.hid (drop_at hx1)
          clear hx1
          have hlen := rfieldS_len wd bk sk x
          go_wp2_with fail
          refine (rfield_any B wb _ _ bk sk wd x _ P2.1 (by omega) (by omega)).mono ?_
          rintro e w4 ⟨rfl, hS4⟩
          obtain ⟨A4, c4, P4⟩ := P2.step hS4
          go_wp2
          exact ⟨⟨k + 1, A4, c4, _, _, by omega, by go_num, P4, by rw [← HP.out, HX.out]; rfl, by omega⟩, by simp [intOf]; omega⟩
        · obtain rfl : k = zs.length := by omega
          go_wp2
          go_end0
          have h := HP.out
          rw [List.drop_length] at h
          rw [← h]
          exact ⟨rfl, P2.done⟩


def rrowS (bs : List Int) (sp : Bool) (zs : List Int) : List Int × Bool := rputs 6 (rfieldS 1 bs sp zs.length) zs
set_option maxHeartbeats 600000 in
theorem rrow_any (B wb : Nat) (A : Option Addr) (c : Nat) (bs : List Int) (sp : Bool) (D : Option Addr) (d : Nat) (zs : List Int) (w : World) (hW : Wr 68 B w wb A c bs sp) (hB : B ≤ w.heap.size)
    (hD : Rd w D (zs.map (.int .i64))) (hO : zs ≠ [] → Off (touched wb A) D) (hl : bs.length + 6 * zs.length ≤ 10000000000) :
    Calls Tryz.prog 75 #[.pointer (some ⟨wb, 0, none⟩), .slice D zs.length d] w fun e w' => e = .returned (.tuple #[]) ∧ WStep 68 B wb A w (rrowS bs sp zs).1 (rrowS bs sp zs).2 w' := by
    have hlen1 := rfieldS_len 1 bs sp zs.length
    go_enter Tryz.func75, Tryz.ntmps75
    go_wp2_with fail
    refine (rfield_any B wb _ _ bs sp 1 zs.length _ hW (by omega) (by omega)).mono ?_
    rintro e w1 ⟨rfl, hS1⟩
    obtain ⟨A1, c1, P1⟩ := (WP.start hW).step hS1
    go_wp2_with fail
    · go_loopw [4] (fun i wr => PutsRel B wb A (rfieldS 1 bs sp zs.length).1 6 zs (rrowS bs sp zs) w i wr) (fun i _ => zs.length - (intOf i).toNat)
      case atStart => exact ⟨0, A1, c1, _, _, Nat.zero_le _, rfl, P1, rfl, by omega⟩
      case round =>
        obtain ⟨k, A2, c2, bk, sk, hk, rfl, P2, hp, hl2⟩ := hrel
        have HP := Lib.hid hp
        clear hp
        have hsz := P2.size
        by_cases hlt : k < zs.length
        · obtain ⟨ad, x, rfl, hcx, hx1⟩ := (P2.rd hD hO).int hlt
          have HX := Lib.hid (drop_at hx1)
          clear hx1
          have hlen := rfieldS_len 6 bk sk x
          go_wp2_with fail
          refine (rfield_any B wb _ _ bk sk 6 x _ P2.1 (by omega) (by omega)).mono ?_
          rintro e w4 ⟨rfl, hS4⟩
          obtain ⟨A4, c4, P4⟩ := P2.step hS4
          go_wp2
          exact ⟨⟨k + 1, A4, c4, _, _, by omega, by go_num, P4, by rw [← HP.out, HX.out]; rfl, by omega⟩, by simp [intOf]; omega⟩
        · obtain rfl : k = zs.length := by omega
          go_wp2
          go_end0
          have h := HP.out
          rw [List.drop_length] at h
          rw [← h]
          exact ⟨rfl, P2.done⟩


def rtextS (bs : List Int) (sp : Bool) (ys : List Int) : List Int × Bool := ((rfieldS 2 bs sp ys.length).1 ++ ys, (rfieldS 2 bs sp ys.length).2)
set_option maxHeartbeats 600000 in
theorem rtext_any (B wb : Nat) (A : Option Addr) (c : Nat) (bs : List Int) (sp : Bool) (D : Option Addr) (d : Nat) (ys : List Int) (w : World) (hW : Wr 68 B w wb A c bs sp) (hB : B ≤ w.heap.size)
    (hD : Rd w D (ys.map (.int .u8))) (hO : ys ≠ [] → Off (touched wb A) D) (hl : bs.length + ys.length ≤ 10000000000) :
    Calls Tryz.prog 30 #[.pointer (some ⟨wb, 0, none⟩), .slice D ys.length d] w fun e w' => e = .returned (.tuple #[]) ∧ WStep 68 B wb A w (rtextS bs sp ys).1 (rtextS bs sp ys).2 w' := by
  have hlen1 := rfieldS_len 2 bs sp ys.length
  go_enter Tryz.func30, Tryz.ntmps30
  go_wp2_with fail
  refine (rfield_any B wb _ _ bs sp 2 ys.length _ hW (by omega) (by omega)).mono ?_
  rintro e w1 ⟨rfl, hS1⟩
  obtain ⟨A1, c1, P1⟩ := (WP.start hW).step hS1
  have h10 := P1.1.c0
  have hsz := P1.size
  go_wp2_with (at_builtin; refine appendBytes _ rfl _ _ rfl B _ _ _ (rfieldS 2 bs sp ys.length).1 rfl rfl P1.1.2.2 _ _ _ ys rfl rfl (P1.rd hD hO) (by omega) (by omega) ?_; intro A3 c3 m3 w3 hm3 hown3 hfr3 hA3; obtain ⟨hc3, hf3, hS3⟩ := P1.1.app (by decide) hown3 hfr3 hA3 hm3; clear hown3 hfr3 hA3 hm3)
  go_end0
  obtain ⟨A4, c4, P4⟩ := P1.step hS3
  exact ⟨rfl, P4.done⟩

set_option maxHeartbeats 400000 in
theorem rbytes_any (B wb : Nat) (A : Option Addr) (c : Nat) (bs : List Int) (sp : Bool) (w : World) (hW : Wr 68 B w wb A c bs sp) (hl : bs.length ≤ 1000000000000) :
    Calls Tryz.prog 32 #[.pointer (some ⟨wb, 0, none⟩)] w (BytesP 68 B wb A bs sp w) := by
  have hc0 := hW.c0
  have hc1 := hW.c1
  have hlt := hW.lt
  cases sp with
  | true =>
    go_enter Tryz.func32, Tryz.ntmps32
    go_wp2
    go_ret2
    exact ⟨none, 0, rfl, Own.nil _ _ _, A, c, hW, Fr.refl _ _, fun _ h => .inl h⟩
  | false =>
    have hO1 := own_empty w w.heap.size 5 (Nat.le_refl _)
    have hD1 := hW.2.2.rd.ext ((Ext.refl w).alloc (.cells #[] 5))
    go_enter Tryz.func32, Tryz.ntmps32
    go_wp2_with (at_builtin; refine appendBytes _ rfl _ _ rfl w.heap.size _ _ _ [] rfl rfl hO1 _ _ _ bs rfl rfl hD1 (by simp; omega) (by simp) ?_; intro A3 c3 m3 w3 hm3 hown3 hfr3 hA3; obtain rfl := hm3)
    go_ret2
    have hE3 : Ext w w3 := own_fresh hO1 ((Ext.refl w).alloc _) hfr3
    exact ⟨A3, c3, rfl, hown3, A, c, hW.ext hE3, Fr.ofExt _ hE3, fun _ h => .inl h⟩

set_option maxHeartbeats 600000 in
theorem rright_any (i t k : Int) (D : Option Addr) (n d : Nat) (w : World) :
    Calls Tryz.prog 120 #[.agg #[.int .i64 i, .int .i64 t, .int .i64 k, .slice D n d]] w fun e w' => e = .returned (.bool (rightE i t k n)) ∧ Ext w w' := by
  cases h0 : decide (1 ≤ i) with
  | false =>
    have hv : Hid (rightE i t k n = false) := Lib.hid (by rw [Bool.eq_false_iff, ne_eq, rightE_iff]; simp [inB] at *; omega)
    go_enter Tryz.func120, Tryz.ntmps120
    go_wp2
    go_ret
    exact ⟨by rw [hv.out]; rfl, (Ext.refl _).alloc _⟩
  | true =>
    cases h1 : decide (i ≤ 1099511627776) with
    | false =>
      have hv : Hid (rightE i t k n = false) := Lib.hid (by rw [Bool.eq_false_iff, ne_eq, rightE_iff]; simp [inB] at *; omega)
      go_enter Tryz.func120, Tryz.ntmps120
      go_wp2
      go_ret
      exact ⟨by rw [hv.out]; rfl, (Ext.refl _).alloc _⟩
    | true =>
      cases h2 : decide (0 ≤ t) with
      | false =>
        have hv : Hid (rightE i t k n = false) := Lib.hid (by rw [Bool.eq_false_iff, ne_eq, rightE_iff]; simp [inB] at *; omega)
        go_enter Tryz.func120, Tryz.ntmps120
        go_wp2
        go_ret
        exact ⟨by rw [hv.out]; rfl, (Ext.refl _).alloc _⟩
      | true =>
        cases h3 : decide (t ≤ 1099511627776) with
        | false =>
          have hv : Hid (rightE i t k n = false) := Lib.hid (by rw [Bool.eq_false_iff, ne_eq, rightE_iff]; simp [inB] at *; omega)
          go_enter Tryz.func120, Tryz.ntmps120
          go_wp2
          go_ret
          exact ⟨by rw [hv.out]; rfl, (Ext.refl _).alloc _⟩
        | true =>
          cases h4 : decide (1 ≤ k) with
          | false =>
            have hv : Hid (rightE i t k n = false) := Lib.hid (by rw [Bool.eq_false_iff, ne_eq, rightE_iff]; simp [inB] at *; omega)
            go_enter Tryz.func120, Tryz.ntmps120
            go_wp2
            go_ret
            exact ⟨by rw [hv.out]; rfl, (Ext.refl _).alloc _⟩
          | true =>
            cases h5 : decide (k ≤ 3) with
            | false =>
              have hv : Hid (rightE i t k n = false) := Lib.hid (by rw [Bool.eq_false_iff, ne_eq, rightE_iff]; simp [inB] at *; omega)
              go_enter Tryz.func120, Tryz.ntmps120
              go_wp2
              go_ret
              exact ⟨by rw [hv.out]; rfl, (Ext.refl _).alloc _⟩
            | true =>
              cases h6 : decide (n ≤ 200) with
              | false =>
                have hz : decide ((n : Int) ≤ 200) = false := by simp at h6 ⊢; omega
                have hv : Hid (rightE i t k n = false) := Lib.hid (by rw [Bool.eq_false_iff, ne_eq, rightE_iff]; simp [inB] at *; omega)
                go_enter Tryz.func120, Tryz.ntmps120
                go_wp2
                go_ret
                exact ⟨by rw [hv.out]; rfl, (Ext.refl _).alloc _⟩
              | true =>
                have hz : decide ((n : Int) ≤ 200) = true := by simp at h6 ⊢; omega
                have hv : Hid (rightE i t k n = true) := Lib.hid (by rw [rightE_iff]; simp [inB] at *; omega)
                go_enter Tryz.func120, Tryz.ntmps120
                go_wp2
                go_ret
                exact ⟨by rw [hv.out]; rfl, (Ext.refl _).alloc _⟩
def rentryS (bs : List Int) (sp : Bool) (i t k : Int) (ys : List Int) : List Int × Bool :=
  if rightE i t k ys.length = true then (bs ++ leB 1 k ++ leB 6 i ++ leB 6 t ++ leB 2 ys.length ++ ys, sp) else (bs, true)
theorem rf_ok (wd : Int) (bs : List Int) (sp : Bool) (n : Int) (h0 : 0 ≤ n) (h1 : n ≤ topI wd) : rfieldS wd bs sp n = (bs ++ leB wd.toNat n, sp) := by rw [rfieldS, if_pos (okN_iff.2 ⟨h0, h1⟩)]
theorem rf_1 {bs : List Int} {sp : Bool} {n : Int} (h0 : 0 ≤ n) (h1 : n ≤ 255) : rfieldS 1 bs sp n = (bs ++ leB 1 n, sp) := rf_ok 1 bs sp n h0 h1
theorem rf_2 {bs : List Int} {sp : Bool} {n : Int} (h0 : 0 ≤ n) (h1 : n ≤ 65535) : rfieldS 2 bs sp n = (bs ++ leB 2 n, sp) := rf_ok 2 bs sp n h0 h1
theorem rf_6 {bs : List Int} {sp : Bool} {n : Int} (h0 : 0 ≤ n) (h1 : n ≤ 1099511627776) : rfieldS 6 bs sp n = (bs ++ leB 6 n, sp) := rf_ok 6 bs sp n h0 h1

set_option maxHeartbeats 600000 in
theorem rentry_any (B wb : Nat) (A : Option Addr) (c : Nat) (bs : List Int) (sp : Bool) (i t k : Int) (D : Option Addr) (d : Nat) (ys : List Int) (w : World) (hW : Wr 68 B w wb A c bs sp) (hB : B ≤ w.heap.size)
    (hD : Rd w D (ys.map (.int .u8))) (hO : ys ≠ [] → Off (touched wb A) D) (hl : bs.length ≤ 1000000000) (hy : ys.length ≤ 1000000000) :
    Calls Tryz.prog 74 #[.pointer (some ⟨wb, 0, none⟩), .agg #[.int .i64 i, .int .i64 t, .int .i64 k, .slice D ys.length d]] w fun e w' => e = .returned (.tuple #[]) ∧ WStep 68 B wb A w (rentryS bs sp i t k ys).1 (rentryS bs sp i t k ys).2 w' := by
  cases hR : rightE i t k ys.length with
  | false =>
    have hs : Hid (rentryS bs sp i t k ys = (bs, true)) := Lib.hid (by simp [rentryS, hR])
    go_enter Tryz.func74, Tryz.ntmps74
    go_wp2_with (go_at_call 120; refine (rright_any _ _ _ _ _ _ _).mono ?_; rintro e w1 ⟨rfl, hE1⟩; have hE01 := ((Ext.refl w).alloc _).trans hE1; have hW1 := hW.ext hE01; have hc1 := hW1.c1; have hf1 := hW1.f 1)
    refine bodyPost_ret (results_none rfl _ _ _) rfl ?_
    rw [hs.out]
    exact ⟨rfl, WStep.ext hE01 (hW1.step (by decide) true)⟩
  | true =>
    have hs : Hid (rentryS bs sp i t k ys = (bs ++ leB 1 k ++ leB 6 i ++ leB 6 t ++ leB 2 ys.length ++ ys, sp)) := Lib.hid (by simp [rentryS, hR])
    obtain ⟨⟨hi1, hi2⟩, ⟨ht1, ht2⟩, hk1, hk2, hn⟩ := rightE_iff.1 hR
    have hnt := not_touched_new hW
    have hW0 := hW.ext ((Ext.refl w).alloc (.cells #[.int .i64 i, .int .i64 t, .int .i64 k, .slice D ys.length d] 106))
    have hD0 := hD.ext ((Ext.refl w).alloc (.cells #[.int .i64 i, .int .i64 t, .int .i64 k, .slice D ys.length d] 106))
    have hH0 := Lib.hid (heap_alloc_new w (.cells #[.int .i64 i, .int .i64 t, .int .i64 k, .slice D ys.length d] 106))
    go_enter Tryz.func74, Tryz.ntmps74
    go_wp2_with (first | (go_at_call 120; refine (rright_any _ _ _ _ _ _ _).mono ?_; rintro e w1 ⟨rfl, hE1⟩; have P1 := (WP.start hW0).ext hE1; have hH1 := Lib.hid ((P1.heap (by simp) hnt).trans hH0.out); have e0 := cell_of_heap hH1.out 2; simp at e0) | fail)
    have hz1 := P1.size
    simp at hz1
    refine (rfield_any B wb _ _ _ sp 1 k _ P1.1 (by omega) (by omega)).mono ?_
    rintro e w2 ⟨rfl, hS2⟩
    rw [rf_1 (by omega) (by omega)] at hS2
    obtain ⟨A2, c2, P2⟩ := P1.step hS2
    have hH2 := Lib.hid ((P2.heap (by simp) hnt).trans hH0.out)
    have e1 := cell_of_heap hH2.out 0
    have hz2 := P2.size
    simp at e1 hz2
    clear e0 hH1 hS2
    go_wp2_with fail
    refine (rfield_any B wb _ _ _ sp 6 i _ P2.1 (by omega) (by simp [leB_length]; omega)).mono ?_
    rintro e w3 ⟨rfl, hS3⟩
    rw [rf_6 (by omega) (by omega)] at hS3
    obtain ⟨A3, c3, P3⟩ := P2.step hS3
    have hH3 := Lib.hid ((P3.heap (by simp) hnt).trans hH0.out)
    have e2 := cell_of_heap hH3.out 1
    have hz3 := P3.size
    simp at e2 hz3
    clear e1 hH2 hS3
    go_wp2_with fail
    refine (rfield_any B wb _ _ _ sp 6 t _ P3.1 (by omega) (by simp [leB_length]; omega)).mono ?_
    rintro e w4 ⟨rfl, hS4⟩
    rw [rf_6 (by omega) (by omega)] at hS4
    obtain ⟨A4, c4, P4⟩ := P3.step hS4
    have hH4 := Lib.hid ((P4.heap (by simp) hnt).trans hH0.out)
    have e3 := cell_of_heap hH4.out 3
    have hz4 := P4.size
    simp at e3 hz4
    clear e2 hH3 hS4
    go_wp2_with fail
    refine (rtext_any B wb _ _ _ sp _ _ ys _ P4.1 (by omega) (P4.rd hD0 hO) (P4.off hD0 hO) (by simp [leB_length]; omega)).mono ?_
    rintro e w5 ⟨rfl, hS5⟩
    obtain ⟨A5, c5, P5⟩ := P4.step hS5
    clear e3 hH4
    go_wp2
    go_end0
    rw [hs.out]
    rw [rtextS, rf_2 (by omega) (by omega)] at P5
    exact ⟨rfl, WStep.ext ((Ext.refl w).alloc _) P5.done⟩
end Go.Proofs.YtcapapnhlkmeaaaGreatDoor
