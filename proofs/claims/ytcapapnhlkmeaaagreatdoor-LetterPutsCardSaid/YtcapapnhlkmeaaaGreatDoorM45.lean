/-
  The document's writers of letters: identities, entries, snapshots.
-/
import Derived.Test.YtcapapnhlkmeaaaGreatDoorM28
import Derived.Test.YtcapapnhlkmeaaaGreatDoorM37
import Derived.Test.YtcapapnhlkmeaaaGreatDoorM40
namespace Go.Proofs.YtcapapnhlkmeaaaGreatDoor
open Go.RowKit

theorem rputs_all (wd : Int) (bs zs : List Int) (hz : ∀ n ∈ zs, 0 ≤ n ∧ n ≤ topI wd) : rputs wd (bs, false) zs = (bs ++ zs.flatMap (leB wd.toNat), false) := by
  induction zs generalizing bs with
  | nil => simp [rputs]
  | cons n zs ih =>
    have h1 := hz n (by simp)
    have h2 := ih (bs ++ leB wd.toNat n) (fun m hm => hz m (by simp [hm]))
    unfold rputs at h2 ⊢
    rw [List.foldl_cons, rf_ok wd bs false n h1.1 h1.2, h2]
    simp
theorem rfields_all (wd : Int) (bs zs : List Int) (hT : 0 ≤ topI wd) (hz : ∀ n ∈ zs, 0 ≤ n ∧ n ≤ topI wd) : rfieldsS wd bs false zs = (bs ++ zs.flatMap (leB wd.toNat), false) := by
  unfold rfieldsS
  rw [if_neg (by omega)]
  exact rputs_all wd bs zs hz
theorem rrow_all (bs zs : List Int) (hn : zs.length ≤ 255) (hz : ∀ n ∈ zs, 0 ≤ n ∧ n ≤ 1099511627776) : rrowS bs false zs = (bs ++ rowB zs, false) := by
  unfold rrowS
  rw [rf_1 (by omega) (by omega), rputs_all 6 _ _ hz]
  simp [rowB]
theorem rtext_all (bs ys : List Int) (hn : ys.length ≤ 65535) : rtextS bs false ys = (bs ++ textB ys, false) := by
  unfold rtextS
  rw [rf_2 (by omega) (by omega)]
  simp [textB]
theorem rentry_all (bs : List Int) (e : Ent) (h : e.fits) : rentryS bs false e.i e.t e.k e.bs = (bs ++ entB e, false) := by
  have h' : rightE e.i e.t e.k e.bs.length = true := h
  unfold rentryS
  rw [if_pos h']
  simp [entB]
theorem rf_4 {bs : List Int} {sp : Bool} {n : Int} (h0 : 0 ≤ n) (h1 : n ≤ 4294967295) : rfieldS 4 bs sp n = (bs ++ leB 4 n, sp) := rf_ok 4 bs sp n h0 h1

set_option maxRecDepth 100000 in
set_option maxHeartbeats 600000 in
theorem rident_put (B wb : Nat) (A : Option Addr) (c : Nat) (bs : List Int) (p : Id) (hp : p.fits) (w : World) (hW : Wr 68 B w wb A c bs false) (hB : B ≤ w.heap.size) (hl : bs.length ≤ 1000000) :
    Calls Tryz.prog 26 #[.pointer (some ⟨wb, 0, none⟩), p.v] w fun e w' => e = .returned (.tuple #[]) ∧ WStep 68 B wb A w (bs ++ idB p) false w' := by
  obtain ⟨⟨hi0, hi1⟩, ⟨ht0, ht1⟩, hk0, hk1⟩ := hp
  have hW0 := hW.ext ((Ext.refl w).alloc (.cells #[.int .i64 p.i, .int .i64 p.t, .int .i64 p.k] 25))
  have hnt : ¬ touched wb A w.heap.size := not_touched_new hW
  have P0 := Lib.hid (WP.start hW0)
  have HG0 := Lib.hid (heap_alloc_new w (.cells #[.int .i64 p.i, .int .i64 p.t, .int .i64 p.k] 25))
  have hf1 : Hid (rfieldsS 6 bs false [p.i, p.t] = (bs ++ leB 6 p.i ++ leB 6 p.t, false)) := Lib.hid (by
    rw [rfields_all 6 _ _ (by decide) (by
      intro n hn
      simp only [List.mem_cons, List.not_mem_nil, or_false] at hn
      rcases hn with rfl | rfl
      · exact ⟨hi0, hi1⟩
      · exact ⟨ht0, ht1⟩)]
    simp)
  have hr0 := rd_two (w.alloc (.cells #[.int .i64 p.i, .int .i64 p.t, .int .i64 p.k] 25)) (.int .i64 p.i) (.int .i64 p.t) 3
  have hoff := off_new hW0
  rw [World.size_alloc] at hoff hr0
  have HR0 := Lib.hid hr0
  have HOFF := Lib.hid hoff
  clear hr0 hoff hW0
  unfold Id.v idV
  go_enter Tryz.func26, Tryz.ntmps26
  go_wp2_with fail
  have P0a := P0.out.ext ((Ext.refl _).alloc (.cells #[.int .i64 p.i, .int .i64 p.t] 3))
  refine (rfields_any B wb A c bs false 6 (some ⟨w.heap.size + 1, 0, none⟩) 2 [p.i, p.t] _ P0a.1 (by simp; omega) HR0.out (fun _ => HOFF.out) (by simp; omega)).mono ?_
  rintro e w1 ⟨rfl, hS1⟩
  rw [hf1.out] at hS1
  obtain ⟨A1, c1, P1⟩ := P0a.step hS1
  have z1 := P1.size
  rw [World.size_alloc] at z1
  have g1 := (P1.heap (i := w.heap.size) (by simp) hnt).trans HG0.out
  have r1 := cell_of_heap g1
  clear hS1 P0a g1
  have HP1 := Lib.hid P1
  clear P1
  go_wp2_with fail
  refine (rfield_any B wb _ _ _ false 1 p.k _ HP1.out.1 (by omega) (by simp [leB_length]; omega)).mono ?_
  rintro e w2 ⟨rfl, hS2⟩
  rw [rf_1 hk0 hk1] at hS2
  obtain ⟨A2, c2, P2⟩ := HP1.out.step hS2
  have HP2 := Lib.hid P2
  clear hS2 P2
  go_wp2_with fail
  go_end0
  have h := HP2.out.done
  rw [show bs ++ leB 6 p.i ++ leB 6 p.t ++ leB 1 p.k = bs ++ idB p by simp [idB]] at h
  exact ⟨rfl, WStep.ext ((Ext.refl w).alloc _) h⟩

set_option maxRecDepth 100000 in
set_option maxHeartbeats 600000 in
theorem ryes_put (B wb : Nat) (A : Option Addr) (c : Nat) (bs : List Int) (b : Bool) (w : World) (hW : Wr 68 B w wb A c bs false) (hB : B ≤ w.heap.size) (hl : bs.length ≤ 1000000) :
    Calls Tryz.prog 27 #[.pointer (some ⟨wb, 0, none⟩), .bool b] w fun e w' => e = .returned (.tuple #[]) ∧ WStep 68 B wb A w (bs ++ [yesI b]) false w' := by
  have P0 := Lib.hid (WP.start hW)
  cases b with
  | false =>
    go_enter Tryz.func27, Tryz.ntmps27
    go_wp2_with fail
    refine (rfield_any B wb A c bs false 1 0 _ P0.out.1 hB (by omega)).mono ?_
    rintro e w1 ⟨rfl, hS1⟩
    rw [rf_1 (by omega) (by omega)] at hS1
    obtain ⟨A1, c1, P1⟩ := P0.out.step hS1
    go_wp2_with fail
    go_end0
    exact ⟨rfl, P1.done⟩
  | true =>
    go_enter Tryz.func27, Tryz.ntmps27
    go_wp2_with fail
    refine (rfield_any B wb A c bs false 1 1 _ P0.out.1 hB (by omega)).mono ?_
    rintro e w1 ⟨rfl, hS1⟩
    rw [rf_1 (by omega) (by omega)] at hS1
    obtain ⟨A1, c1, P1⟩ := P0.out.step hS1
    go_wp2_with fail
    go_end0
    exact ⟨rfl, P1.done⟩

def RIdsRel (B wb : Nat) (A : Option Addr) (bs : List Int) (ps : List Id) (w : World) (i : Value) (wr : World) : Prop :=
  ∃ (k : Nat) (A' : Option Addr) (c' : Nat), k ≤ ps.length ∧ i = .int .i64 k ∧ WP 68 B wb A w (bs ++ leB 1 ps.length ++ idsB (ps.take k)) false wr A' c'
set_option maxRecDepth 100000 in
set_option maxHeartbeats 1000000 in
theorem ridents_put (B wb : Nat) (A : Option Addr) (c : Nat) (bs : List Int) (D : Option Addr) (d : Nat) (ps : List Id) (hp : ∀ p ∈ ps, p.fits) (hn : ps.length ≤ 255) (w : World) (hW : Wr 68 B w wb A c bs false) (hB : B ≤ w.heap.size) (hl : bs.length ≤ 100000)
    (hD : IdsIn w D ps) (hO : ps ≠ [] → Off (touched wb A) D) :
    Calls Tryz.prog 31 #[.pointer (some ⟨wb, 0, none⟩), .slice D ps.length d] w fun e w' => e = .returned (.tuple #[]) ∧ WStep 68 B wb A w (bs ++ leB 1 ps.length ++ idsB ps) false w' := by
  have P0 := Lib.hid (WP.start hW)
  go_enter Tryz.func31, Tryz.ntmps31
  go_wp2_with fail
  refine (rfield_any B wb A c bs false 1 (ps.length : Int) _ P0.out.1 hB (by omega)).mono ?_
  rintro e w1 ⟨rfl, hS1⟩
  rw [rf_1 (by omega) (by omega)] at hS1
  obtain ⟨A1, c1, P1⟩ := P0.out.step hS1
  have HP1 := Lib.hid P1
  clear hS1 P1
  go_wp2_with fail
  go_loopw [4] (fun i wr => RIdsRel B wb A bs ps w i wr) (fun i _ => ps.length - (intOf i).toNat)
  case atStart => exact ⟨0, A1, c1, Nat.zero_le _, rfl, by simpa [idsB] using HP1.out⟩
  case round =>
    obtain ⟨k, A2, c2, hk, rfl, P2⟩ := hrel
    have hsz := P2.size
    have HP2 := Lib.hid P2
    clear P2
    by_cases hlt2 : k < ps.length
    · have hD2 := hD.fr HP2.out.2.1 hO
      obtain ⟨b, f, p, rfl, hpk, d0, d1, d2⟩ := hD2.at_ hlt2
      have hfit := hp p (mem_of_get hpk)
      have HX := Lib.hid (idsB_step hpk)
      clear hpk hD2
      have hlen := idsB_length (ps.take k)
      rw [List.length_take] at hlen
      have HPI := Lib.hid (fun w hW hB hl => rident_put B wb A2 c2 (bs ++ leB 1 ps.length ++ idsB (ps.take k)) p hfit w hW hB hl)
      unfold Id.v idV at HPI
      go_wp2_with fail
      refine (HPI.out _ HP2.out.1 (by omega) (by simp [leB_length]; omega)).mono ?_
      rintro e w3 ⟨rfl, hS3⟩
      obtain ⟨A3, c3, P3⟩ := HP2.out.step hS3
      have HP3 := Lib.hid P3
      clear hS3 P3
      go_wp2_with fail
      go_roundw
      case rel => exact ⟨k + 1, A3, c3, by omega, by go_num, by rw [HX.out, ← List.append_assoc]; exact HP3.out⟩
      case measure => simp [intOf]; omega
    · obtain rfl : k = ps.length := by omega
      go_wp2_with fail
      go_end0
      have h := HP2.out
      rw [List.take_length] at h
      exact ⟨rfl, h.done⟩

def REntsRel (B wb : Nat) (A : Option Addr) (bs : List Int) (es : List Ent) (w : World) (i : Value) (wr : World) : Prop :=
  ∃ (k : Nat) (A' : Option Addr) (c' : Nat), k ≤ es.length ∧ i = .int .i64 k ∧ WP 68 B wb A w (bs ++ leB 1 es.length ++ entsB (es.take k)) false wr A' c'
set_option maxRecDepth 100000 in
set_option maxHeartbeats 1000000 in
theorem rentries_put (B wb : Nat) (A : Option Addr) (c : Nat) (bs : List Int) (D : Option Addr) (d : Nat) (es : List Ent) (hp : ∀ e ∈ es, e.fits) (hn : es.length ≤ 255) (w : World) (hW : Wr 68 B w wb A c bs false) (hB : B ≤ w.heap.size) (hl : bs.length ≤ 100000)
    (hD : EntsIn w D es) (hO : es ≠ [] → Off (touched wb A) D) (hO2 : ∀ e ∈ es, e.bs ≠ [] → Off (touched wb A) e.bA) :
    Calls Tryz.prog 28 #[.pointer (some ⟨wb, 0, none⟩), .slice D es.length d] w fun e w' => e = .returned (.tuple #[]) ∧ WStep 68 B wb A w (bs ++ leB 1 es.length ++ entsB es) false w' := by
  have P0 := Lib.hid (WP.start hW)
  go_enter Tryz.func28, Tryz.ntmps28
  go_wp2_with fail
  refine (rfield_any B wb A c bs false 1 (es.length : Int) _ P0.out.1 hB (by omega)).mono ?_
  rintro e w1 ⟨rfl, hS1⟩
  rw [rf_1 (by omega) (by omega)] at hS1
  obtain ⟨A1, c1, P1⟩ := P0.out.step hS1
  have HP1 := Lib.hid P1
  clear hS1 P1
  go_wp2_with fail
  go_loopw [4] (fun i wr => REntsRel B wb A bs es w i wr) (fun i _ => es.length - (intOf i).toNat)
  case atStart => exact ⟨0, A1, c1, Nat.zero_le _, rfl, by simpa [entsB] using HP1.out⟩
  case round =>
    obtain ⟨k, A2, c2, hk, rfl, P2⟩ := hrel
    have hsz := P2.size
    have HP2 := Lib.hid P2
    clear P2
    by_cases hlt2 : k < es.length
    · obtain ⟨b, f, e, rfl, hek, d0, d1, d2, d3, hin⟩ := hD.at_ hlt2
      have hne : es ≠ [] := by rintro rfl; simp at hlt2
      have hof : ¬ touched wb A b := hO hne _ rfl
      have d0 := HP2.out.2.1.cell (p := ⟨b, _, none⟩) hof d0
      have d1 := HP2.out.2.1.cell (p := ⟨b, _, none⟩) hof d1
      have d2 := HP2.out.2.1.cell (p := ⟨b, _, none⟩) hof d2
      have d3 := HP2.out.2.1.cell (p := ⟨b, _, none⟩) hof d3
      have hfit := hp e (mem_of_get hek)
      have h200 := (rightE_iff.1 hfit).2.2.2.2
      have hRB := Lib.hid (hin.1)
      have hOB := Lib.hid (hO2 e (mem_of_get hek))
      have HX := Lib.hid (entsB_step hek)
      have hlen := entsB_length (es.take k) (take_fits hp k)
      rw [List.length_take] at hlen
      have hfe := Lib.hid (rentry_all (bs ++ leB 1 es.length ++ entsB (es.take k)) e hfit)
      clear hek hin hof hfit
      go_wp2_with fail
      refine (rentry_any B wb A2 c2 _ false e.i e.t e.k e.bA e.bc e.bs _ HP2.out.1 (by omega) (HP2.out.rd hRB.out hOB.out) (HP2.out.off hRB.out hOB.out) (by simp [leB_length]; omega) (by omega)).mono ?_
      rintro ev w3 ⟨rfl, hS3⟩
      rw [hfe.out] at hS3
      obtain ⟨A3, c3, P3⟩ := HP2.out.step hS3
      have HP3 := Lib.hid P3
      clear hS3 P3
      go_wp2_with fail
      go_roundw
      case rel => exact ⟨k + 1, A3, c3, by omega, by go_num, by rw [HX.out, ← List.append_assoc]; exact HP3.out⟩
      case measure => simp [intOf]; omega
    · obtain rfl : k = es.length := by omega
      go_wp2_with fail
      go_end0
      have h := HP2.out
      rw [List.take_length] at h
      exact ⟨rfl, h.done⟩

def snapB (l : Let) : List Int := idB l.slast ++ rowB l.mems ++ leB 4 l.size ++ leB 1 l.sums.length ++ sumsB l.sums
def Let.sarr (l : Let) : Array Value := #[.int .i64 l.slast.i, .int .i64 l.slast.t, .int .i64 l.slast.k, .slice l.mA l.mems.length l.mc, .int .i64 l.size, .slice l.uA l.sums.length l.uc]
def RSumRel (B wb : Nat) (A : Option Addr) (b0 : List Int) (l : Let) (w w0 : World) (i : Value) (wr : World) : Prop :=
  ∃ (k : Nat) (A' : Option Addr) (c' : Nat), k ≤ l.sums.length ∧ i = .int .i64 k ∧ WP 68 B wb A w (b0 ++ sumsB (l.sums.take k)) false wr A' c' ∧ wr.heap[w0.heap.size]? = some (.cells l.sarr 31)
set_option maxRecDepth 100000 in
set_option maxHeartbeats 2000000 in
theorem rsnap_put (B wb : Nat) (A : Option Addr) (c : Nat) (bs : List Int) (l : Let) (hc : l.carries) (w : World) (hW : Wr 68 B w wb A c bs false) (hB : B ≤ w.heap.size) (hl : bs.length ≤ 100000)
    (hin : l.inW w) (hO : l.off (touched wb A)) :
    Calls Tryz.prog 29 #[.pointer (some ⟨wb, 0, none⟩), l.sagg] w fun e w' => e = .returned (.tuple #[]) ∧ WStep 68 B wb A w (bs ++ snapB l) false w' := by
  have hm1 := Lib.hid (hin.m1.ext ((Ext.refl w).alloc (.cells l.sarr 31)))
  have hu1 := Lib.hid (hin.u1.ext ((Ext.refl w).alloc (.cells l.sarr 31)))
  have om := Lib.hid hO.m1
  have ou := Lib.hid hO.u1
  have HC := Lib.hid hc
  have c2 := hc.f2
  have c4 := hc.f4.1
  have c5 := hc.f5
  have lr := rowB_length l.mems
  have HNT := Lib.hid (not_touched_new hW)
  have HG0 := Lib.hid (heap_alloc_new w (.cells l.sarr 31))
  have HP0 := Lib.hid (WP.start (hW.ext ((Ext.refl w).alloc (.cells l.sarr 31))))
  have r0 := cell_of_heap HG0.out
  have z0 : w.heap.size + 1 ≤ (w.alloc (.cells l.sarr 31)).heap.size := by simp
  have s0 : l.sarr[0]? = some (.int .i64 l.slast.i) := rfl
  have s1 : l.sarr[1]? = some (.int .i64 l.slast.t) := rfl
  have s2 : l.sarr[2]? = some (.int .i64 l.slast.k) := rfl
  have s3 : l.sarr[3]? = some (.slice l.mA l.mems.length l.mc) := rfl
  have s4 : l.sarr[4]? = some (.int .i64 l.size) := rfl
  have s5 : l.sarr[5]? = some (.slice l.uA l.sums.length l.uc) := rfl
  have hV : l.sagg = .agg l.sarr := rfl
  rw [hV]
  clear hin hO hc hV
  go_enter Tryz.func29, Tryz.ntmps29
  go_wp2_with fail
  refine (rident_put B wb _ _ bs l.slast HC.out.f1 _ HP0.out.1 (by omega) (by omega)).mono ?_
  rintro e w1 ⟨rfl, hS1⟩
  obtain ⟨A1, c1_, P1⟩ := HP0.out.step hS1
  clear hS1
  have z1 := P1.size
  rw [World.size_alloc] at z1
  have g1 := (P1.heap (i := w.heap.size) (by simp) HNT.out).trans HG0.out
  have r1 := cell_of_heap g1
  have HP1 := Lib.hid P1
  clear g1 P1 r0
  go_wp2_with fail
  refine (rrow_any B wb _ _ (bs ++ idB l.slast) false l.mA l.mc l.mems _ HP1.out.1 (by omega) (HP1.out.rd hm1.out om.out) (HP1.out.off hm1.out om.out) (by simp [idB_length]; omega)).mono ?_
  rintro e w2 ⟨rfl, hS2⟩
  rw [rrow_all _ _ HC.out.f2 HC.out.f3] at hS2
  obtain ⟨A2, c2_, P2⟩ := HP1.out.step hS2
  clear hS2
  have z2 := P2.size
  rw [World.size_alloc] at z2
  have g2 := (P2.heap (i := w.heap.size) (by simp) HNT.out).trans HG0.out
  have r2 := cell_of_heap g2
  have HP2 := Lib.hid P2
  clear g2 P2 r1
  go_wp2_with fail
  refine (rfield_any B wb _ _ _ false 4 l.size _ HP2.out.1 (by omega) (by simp [idB_length, lr]; omega)).mono ?_
  rintro e w3 ⟨rfl, hS3⟩
  rw [rf_4 HC.out.f4.1 HC.out.f4.2] at hS3
  obtain ⟨A3, c3_, P3⟩ := HP2.out.step hS3
  clear hS3
  have z3 := P3.size
  rw [World.size_alloc] at z3
  have g3 := (P3.heap (i := w.heap.size) (by simp) HNT.out).trans HG0.out
  have r3 := cell_of_heap g3
  have HP3 := Lib.hid P3
  clear g3 P3 r2
  go_wp2_with fail
  refine (rfield_any B wb _ _ _ false 1 (l.sums.length : Int) _ HP3.out.1 (by omega) (by simp [idB_length, lr, leB_length]; omega)).mono ?_
  rintro e w4 ⟨rfl, hS4⟩
  rw [rf_1 (by omega) (by omega)] at hS4
  obtain ⟨A4, c4_, P4⟩ := HP3.out.step hS4
  clear hS4
  have z4 := P4.size
  rw [World.size_alloc] at z4
  have g4 := (P4.heap (i := w.heap.size) (by simp) HNT.out).trans HG0.out
  have r4 := cell_of_heap g4
  have HP4 := Lib.hid P4
  clear g4 P4 r3
  have HB0 : Hid (∃ b0, b0 = bs ++ idB l.slast ++ rowB l.mems ++ leB 4 l.size ++ leB 1 l.sums.length) := Lib.hid ⟨_, rfl⟩
  obtain ⟨b0, hb0⟩ := HB0.out
  rw [← hb0] at HP4
  have hb0l : b0.length ≤ 110000 := by rw [hb0]; simp [leB_length, idB_length, lr]; omega
  have HB0' := Lib.hid hb0
  clear HB0 hb0
  have HG4 := Lib.hid ((HP4.out.heap (i := w.heap.size) (by simp) HNT.out).trans HG0.out)
  go_wp2_with fail
  go_loopw [4] (fun i wr => RSumRel B wb A b0 l (w.alloc (.cells l.sarr 31)) w i wr) (fun i _ => l.sums.length - (intOf i).toNat)
  case atStart => exact ⟨0, A4, c4_, Nat.zero_le _, rfl, by simpa [sumsB] using HP4.out, HG4.out⟩
  case round =>
    obtain ⟨k, A5, c5_, hk, rfl, P5, hG5⟩ := hrel
    have hsz := P5.size
    rw [World.size_alloc] at hsz
    have HP5 := Lib.hid P5
    have HG5 := Lib.hid hG5
    clear P5 r4
    have r5 := cell_of_heap hG5
    clear hG5
    by_cases hlt2 : k < l.sums.length
    · obtain ⟨ad, x, hax, hcx, hx1⟩ := (HP5.out.rd hu1.out ou.out).int hlt2
      have HX := Lib.hid (sumsB_step hx1)
      have hf := HC.out.f6 x (mem_of_get hx1)
      have hf0 := hf.1
      clear hx1
      rw [hax] at s5 ⊢
      have hcv : IntKind.i64.wrap x = x := IntWalk.i64_in x (by omega)
      have hlen := sumsB_length (l.sums.take k)
      rw [List.length_take] at hlen
      go_wp2_with fail
      refine (rfield_any B wb _ _ _ false 4 x _ HP5.out.1 (by omega) (by simp; omega)).mono ?_
      rintro e w6 ⟨rfl, hS6⟩
      rw [rf_4 hf.1 hf.2] at hS6
      obtain ⟨A6, c6, P6⟩ := HP5.out.step hS6
      have HP6 := Lib.hid P6
      have HG6 := Lib.hid ((P6.heap (i := w.heap.size) (by simp) HNT.out).trans HG0.out)
      clear hS6 P6
      go_wp2_with fail
      go_roundw
      case rel => exact ⟨k + 1, A6, c6, by omega, by go_num, by rw [HX.out, ← List.append_assoc]; exact HP6.out, HG6.out⟩
      case measure => simp [intOf]; omega
    · obtain rfl : k = l.sums.length := by omega
      have h5 := HP5.out
      rw [List.take_length] at h5
      have HQ := Lib.hid h5
      clear h5 HP5
      go_wp2_with fail
      go_end0
      have h := HQ.out.done
      rw [HB0'.out] at h
      rw [show bs ++ idB l.slast ++ rowB l.mems ++ leB 4 l.size ++ leB 1 l.sums.length ++ sumsB l.sums = bs ++ snapB l by simp [snapB]] at h
      exact ⟨rfl, WStep.ext ((Ext.refl w).alloc _) h⟩
end Go.Proofs.YtcapapnhlkmeaaaGreatDoor
