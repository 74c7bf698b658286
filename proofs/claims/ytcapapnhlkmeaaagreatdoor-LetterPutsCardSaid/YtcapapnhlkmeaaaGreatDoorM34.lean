/-
  The letters' writer: ident, idents, entries.
  The letters' writer: carry.
-/
import Derived.Test.YtcapapnhlkmeaaaGreatDoorM14
namespace Go.Proofs.YtcapapnhlkmeaaaGreatDoor
open Go.RowKit

def idB (p : Id) : List Int := leB 6 p.i ++ leB 6 p.t ++ leB 1 p.k
theorem idB_length (p : Id) : (idB p).length = 13 := by simp [idB, leB_length]
/-- The bounds of what is put. -/
def Id.fits (p : Id) : Prop := (0 ≤ p.i ∧ p.i ≤ 1099511627776) ∧ (0 ≤ p.t ∧ p.t ≤ 1099511627776) ∧ 0 ≤ p.k ∧ p.k ≤ 255
def idsB (ps : List Id) : List Int := ps.flatMap idB
theorem idsB_length (ps : List Id) : (idsB ps).length = 13 * ps.length := by
  induction ps with
  | nil => rfl
  | cons p ps ih => simp only [idsB, List.flatMap_cons, List.length_append, List.length_cons] at ih ⊢; rw [ih, idB_length]; omega
theorem idsB_step {ps : List Id} {k : Nat} {p : Id} (h : ps[k]? = some p) : idsB (ps.take (k + 1)) = idsB (ps.take k) ++ idB p := by
  rw [take_snoc' h, idsB, List.flatMap_append]; simp [idsB]
def entB (e : Ent) : List Int := leB 1 e.k ++ leB 6 e.i ++ leB 6 e.t ++ leB 2 e.bs.length ++ e.bs
def Ent.fits (e : Ent) : Prop := rightE e.i e.t e.k e.bs.length = true
theorem entB_length (e : Ent) : (entB e).length = 15 + e.bs.length := by simp [entB, leB_length]; omega
def entsB (es : List Ent) : List Int := es.flatMap entB
theorem entsB_step {es : List Ent} {k : Nat} {e : Ent} (h : es[k]? = some e) : entsB (es.take (k + 1)) = entsB (es.take k) ++ entB e := by
  rw [take_snoc' h, entsB, List.flatMap_append]; simp [entsB]
theorem entsB_length (es : List Ent) (h : ∀ e ∈ es, e.fits) : (entsB es).length ≤ 215 * es.length := by
  induction es with
  | nil => simp [entsB]
  | cons e es ih =>
    have h1 := (rightE_iff.1 (h e (by simp))).2.2.2.2
    have h2 := ih (fun x hx => h x (by simp [hx]))
    simp only [entsB, List.flatMap_cons, List.length_append, List.length_cons] at h2 ⊢
    rw [entB_length]; omega
theorem take_fits {α : Type} {P : α → Prop} {l : List α} (h : ∀ x ∈ l, P x) (k : Nat) : ∀ x ∈ l.take k, P x := fun x hx => h x (List.mem_of_mem_take hx)
theorem mem_of_get {α : Type} {l : List α} {k : Nat} {x : α} (h : l[k]? = some x) : x ∈ l := by
  obtain ⟨hk, rfl⟩ := List.getElem?_eq_some_iff.1 h
  exact List.getElem_mem hk

theorem rd_two (w : World) (x y : Value) (t : TypeId) : Rd (w.alloc (.cells #[x, y] t)) (some ⟨w.heap.size, 0, none⟩) [x, y] := rd_lit w [x, y] t
set_option maxRecDepth 100000 in
set_option maxHeartbeats 600000 in
theorem ident_put (B wb : Nat) (A : Option Addr) (c : Nat) (bs : List Int) (p : Id) (hp : p.fits) (w : World) (hW : Wr 61 B w wb A c bs false) (hB : B ≤ w.heap.size) (hl : bs.length ≤ 1000000) :
    Calls Tryz.prog 67 #[.pointer (some ⟨wb, 0, none⟩), p.v] w fun e w' => e = .returned (.tuple #[]) ∧ WStep 61 B wb A w (bs ++ idB p) false w' := by
  obtain ⟨⟨hi0, hi1⟩, ⟨ht0, ht1⟩, hk0, hk1⟩ := hp
  have hlt := hW.lt
  have hW0 := hW.ext ((Ext.refl w).alloc (.cells #[.int .i64 p.i, .int .i64 p.t, .int .i64 p.k] 25))
  have hnt : ¬ touched wb A w.heap.size := not_touched_new hW
  have hG0 := heap_alloc_new w (.cells #[.int .i64 p.i, .int .i64 p.t, .int .i64 p.k] 25)
  have P0 := Lib.hid (WP.start hW0)
  have HG0 := Lib.hid hG0
  have hf1 : Hid (fieldS 6 bs false [p.i, p.t] = (bs ++ leB 6 p.i ++ leB 6 p.t, false)) := Lib.hid (field2_6 hi0 hi1 ht0 ht1)
  have hf2 : Hid (fieldS 1 (bs ++ leB 6 p.i ++ leB 6 p.t) false [p.k] = (bs ++ leB 6 p.i ++ leB 6 p.t ++ leB 1 p.k, false)) := Lib.hid (field1_1 hk0 hk1)
  have hr0 := rd_two (w.alloc (.cells #[.int .i64 p.i, .int .i64 p.t, .int .i64 p.k] 25)) (.int .i64 p.i) (.int .i64 p.t) 3
  have hoff := off_new hW0
  rw [World.size_alloc] at hoff hr0
  have HR0 := Lib.hid hr0
  have HOFF := Lib.hid hoff
  clear hG0 hr0 hoff hW0
  unfold Id.v idV
  go_enter Tryz.func67, Tryz.ntmps67
  go_wp2_with fail
  have P0a := P0.out.ext ((Ext.refl _).alloc (.cells #[.int .i64 p.i, .int .i64 p.t] 3))
  refine (field_any B wb A c bs false 6 (some ⟨w.heap.size + 1, 0, none⟩) 2 [p.i, p.t] _ P0a.1 (by simp; omega) HR0.out (fun _ => HOFF.out) (by simp; omega)).mono ?_
  rintro e w1 ⟨rfl, hS1⟩
  rw [hf1.out] at hS1
  obtain ⟨A1, c1, P1⟩ := P0a.step hS1
  have z1 := P1.size
  rw [World.size_alloc] at z1
  have g1 := (P1.heap (i := w.heap.size) (by simp) hnt).trans HG0.out
  have r1 := cell_of_heap g1
  clear hS1 P0a g1
  have HP1 := Lib.hid P1
  clear P1
  go_wp2_with fail
  have P1a := HP1.out.ext ((Ext.refl _).alloc (.cells #[.int .i64 p.k] 3))
  refine (field_any B wb _ _ _ false 1 _ 1 [p.k] _ P1a.1 (by simp; omega) (rd_one w1 (.int .i64 p.k) 3) (fun _ => off_new HP1.out.1) (by simp [leB_length]; omega)).mono ?_
  rintro e w2 ⟨rfl, hS2⟩
  rw [hf2.out] at hS2
  obtain ⟨A2, c2, P2⟩ := P1a.step hS2
  have HP2 := Lib.hid P2
  clear hS2 P1a P2
  go_wp2_with fail
  go_end0
  refine ⟨rfl, ?_⟩
  have h := HP2.out
  rw [show bs ++ leB 6 p.i ++ leB 6 p.t ++ leB 1 p.k = bs ++ idB p by simp [idB]] at h
  exact WStep.ext ((Ext.refl w).alloc _) h.done

def IdsRel (B wb : Nat) (A : Option Addr) (bs : List Int) (ps : List Id) (w : World) (i : Value) (wr : World) : Prop :=
  ∃ (k : Nat) (A' : Option Addr) (c' : Nat), k ≤ ps.length ∧ i = .int .i64 k ∧ WP 61 B wb A w (bs ++ leB 1 ps.length ++ idsB (ps.take k)) false wr A' c'
set_option maxRecDepth 100000 in
set_option maxHeartbeats 1000000 in
theorem idents_put (B wb : Nat) (A : Option Addr) (c : Nat) (bs : List Int) (D : Option Addr) (d : Nat) (ps : List Id) (hp : ∀ p ∈ ps, p.fits) (hn : ps.length ≤ 255) (w : World) (hW : Wr 61 B w wb A c bs false) (hB : B ≤ w.heap.size) (hl : bs.length ≤ 100000)
    (hD : IdsIn w D ps) (hO : ps ≠ [] → Off (touched wb A) D) :
    Calls Tryz.prog 71 #[.pointer (some ⟨wb, 0, none⟩), .slice D ps.length d] w fun e w' => e = .returned (.tuple #[]) ∧ WStep 61 B wb A w (bs ++ leB 1 ps.length ++ idsB ps) false w' := by
  have hf : Hid (fieldS 1 bs false [(ps.length : Int)] = (bs ++ leB 1 ps.length, false)) := Lib.hid (field1_1 (by omega) (by omega))
  have P0 := Lib.hid (WP.start hW)
  have hlt := hW.lt
  go_enter Tryz.func71, Tryz.ntmps71
  go_wp2_with fail
  have P0a := P0.out.ext ((Ext.refl _).alloc (.cells #[.int .i64 (ps.length : Int)] 3))
  refine (field_any B wb A c bs false 1 _ 1 [(ps.length : Int)] _ P0a.1 (by simp; omega) (rd_one w (.int .i64 ps.length) 3) (fun _ => off_new hW) (by simp; omega)).mono ?_
  rintro e w1 ⟨rfl, hS1⟩
  rw [hf.out] at hS1
  obtain ⟨A1, c1, P1⟩ := P0a.step hS1
  have HP1 := Lib.hid P1
  clear hS1 P0a P1
  go_wp2_with fail
  go_loopw [13] (fun i wr => IdsRel B wb A bs ps w i wr) (fun i _ => ps.length - (intOf i).toNat)
  case atStart => exact ⟨0, A1, c1, Nat.zero_le _, rfl, by simpa [idsB] using HP1.out⟩
  case round =>
    obtain ⟨k, A2, c2, hk, rfl, P2⟩ := hrel
    have hsz := P2.size
    have HP2 := Lib.hid P2
    clear P2
    by_cases hlt2 : k < ps.length
    · have hD2 : IdsIn wr D ps := fun j p hj => by
        obtain ⟨b, f, h1, h2⟩ := hD j p hj
        refine ⟨b, f, h1, ?_⟩
        have hne : ps ≠ [] := by rintro rfl; simp at hj
        have hof := hO hne _ h1
        exact ⟨HP2.out.2.1.cell hof h2.1, HP2.out.2.1.cell hof h2.2.1, HP2.out.2.1.cell hof h2.2.2⟩
      obtain ⟨b, f, p, rfl, hpk, d0, d1, d2⟩ := hD2.at_ hlt2
      have hbl : b < wr.heap.size := World.block_lt_of_cell? wr _ d0
      have hfit := hp p (mem_of_get hpk)
      have HX := Lib.hid (idsB_step hpk)
      clear hpk hD2
      have hlen := idsB_length (ps.take k)
      rw [List.length_take] at hlen
      have HPI := Lib.hid (fun w hW hB hl => ident_put B wb A2 c2 (bs ++ leB 1 ps.length ++ idsB (ps.take k)) p hfit w hW hB hl)
      unfold Id.v idV at HPI
      go_wp2_with fail
      have P2a := HP2.out.ext ((Ext.refl _).alloc (.cells #[.int .i64 p.i, .int .i64 p.t, .int .i64 p.k] 25))
      refine (HPI.out _ P2a.1 (by simp; omega) (by simp [leB_length]; omega)).mono ?_
      rintro e w3 ⟨rfl, hS3⟩
      obtain ⟨A3, c3, P3⟩ := P2a.step hS3
      have HP3 := Lib.hid P3
      clear hS3 P2a P3
      go_wp2_with fail
      go_roundw
      case rel => exact ⟨k + 1, A3, c3, by omega, by go_num, by rw [HX.out, ← List.append_assoc]; exact HP3.out⟩
      case measure => simp [intOf]; omega
    · obtain rfl : k = ps.length := by omega
      go_wp2_with fail
      go_end0
      have h := HP2.out
      rw [List.take_length] at h
      exact ⟨rfl, h.done⟩

def EntsRel (B wb : Nat) (A : Option Addr) (bs : List Int) (es : List Ent) (w : World) (i : Value) (wr : World) : Prop :=
  ∃ (k : Nat) (A' : Option Addr) (c' : Nat), k ≤ es.length ∧ i = .int .i64 k ∧ WP 61 B wb A w (bs ++ leB 1 es.length ++ entsB (es.take k)) false wr A' c'
set_option maxRecDepth 100000 in
set_option maxHeartbeats 1000000 in
theorem entries_put (B wb : Nat) (A : Option Addr) (c : Nat) (bs : List Int) (D : Option Addr) (d : Nat) (es : List Ent) (hp : ∀ e ∈ es, e.fits) (hn : es.length ≤ 255) (w : World) (hW : Wr 61 B w wb A c bs false) (hB : B ≤ w.heap.size) (hl : bs.length ≤ 100000)
    (hD : EntsIn w D es) (hO : es ≠ [] → Off (touched wb A) D) (hO2 : ∀ e ∈ es, e.bs ≠ [] → Off (touched wb A) e.bA) :
    Calls Tryz.prog 69 #[.pointer (some ⟨wb, 0, none⟩), .slice D es.length d] w fun e w' => e = .returned (.tuple #[]) ∧ WStep 61 B wb A w (bs ++ leB 1 es.length ++ entsB es) false w' := by
  have hf : Hid (fieldS 1 bs false [(es.length : Int)] = (bs ++ leB 1 es.length, false)) := Lib.hid (field1_1 (by omega) (by omega))
  have P0 := Lib.hid (WP.start hW)
  have hlt := hW.lt
  go_enter Tryz.func69, Tryz.ntmps69
  go_wp2_with fail
  have P0a := P0.out.ext ((Ext.refl _).alloc (.cells #[.int .i64 (es.length : Int)] 3))
  refine (field_any B wb A c bs false 1 _ 1 [(es.length : Int)] _ P0a.1 (by simp; omega) (rd_one w (.int .i64 es.length) 3) (fun _ => off_new hW) (by simp; omega)).mono ?_
  rintro e w1 ⟨rfl, hS1⟩
  rw [hf.out] at hS1
  obtain ⟨A1, c1, P1⟩ := P0a.step hS1
  have HP1 := Lib.hid P1
  clear hS1 P0a P1
  go_wp2_with fail
  go_loopw [13] (fun i wr => EntsRel B wb A bs es w i wr) (fun i _ => es.length - (intOf i).toNat)
  case atStart => exact ⟨0, A1, c1, Nat.zero_le _, rfl, by simpa [entsB] using HP1.out⟩
  case round =>
    obtain ⟨k, A2, c2, hk, rfl, P2⟩ := hrel
    have hsz := P2.size
    have HP2 := Lib.hid P2
    clear P2
    by_cases hlt2 : k < es.length
    · obtain ⟨b, f, e, rfl, hek, d0, d1, d2, d3, hin⟩ := hD.at_ hlt2
      have hne : es ≠ [] := by rintro rfl; simp at hlt2
      have hof : ¬ touched wb A b := hO hne _ rfl
      have d0 := HP2.out.2.1.cell (p := ⟨b, _, none⟩) hof d0
      have d1 := HP2.out.2.1.cell (p := ⟨b, _, none⟩) hof d1
      have d2 := HP2.out.2.1.cell (p := ⟨b, _, none⟩) hof d2
      have d3 := HP2.out.2.1.cell (p := ⟨b, _, none⟩) hof d3
      have hbl : b < wr.heap.size := World.block_lt_of_cell? wr _ d0
      have hfit : rightE e.i e.t e.k e.bs.length = true := hp e (mem_of_get hek)
      have hRB := Lib.hid (hin.1)
      have hOB := Lib.hid (hO2 e (mem_of_get hek))
      have HX := Lib.hid (entsB_step hek)
      have hlen := entsB_length (es.take k) (take_fits hp k)
      rw [List.length_take] at hlen
      have h200 := (rightE_iff.1 hfit).2.2.2.2
      have hfe : Hid (entryS (bs ++ leB 1 es.length ++ entsB (es.take k)) false e.i e.t e.k e.bs = (bs ++ leB 1 es.length ++ entsB (es.take k) ++ entB e, false)) := Lib.hid (by
        unfold entryS; rw [if_neg (by decide), if_pos hfit]; simp [entB])
      clear hek hin hof
      go_wp2_with fail
      have P2a := HP2.out.ext ((Ext.refl _).alloc (.cells #[.int .i64 e.i, .int .i64 e.t, .int .i64 e.k, .slice e.bA e.bs.length e.bc] 106))
      refine (entry_any B wb A2 c2 _ false e.i e.t e.k e.bA e.bc e.bs _ P2a.1 (by simp; omega) (P2a.rd hRB.out hOB.out) (P2a.off hRB.out hOB.out) (by simp [leB_length]; omega) (by omega)).mono ?_
      rintro ev w3 ⟨rfl, hS3⟩
      rw [hfe.out] at hS3
      obtain ⟨A3, c3, P3⟩ := P2a.step hS3
      have HP3 := Lib.hid P3
      clear hS3 P2a P3
      go_wp2_with fail
      go_roundw
      case rel => exact ⟨k + 1, A3, c3, by omega, by go_num, by rw [HX.out, ← List.append_assoc]; exact HP3.out⟩
      case measure => simp [intOf]; omega
    · obtain rfl : k = es.length := by omega
      go_wp2_with fail
      go_end0
      have h := HP2.out
      rw [List.take_length] at h
      exact ⟨rfl, h.done⟩
end Go.Proofs.YtcapapnhlkmeaaaGreatDoor
namespace Go.Proofs.YtcapapnhlkmeaaaGreatDoor
open Go.RowKit

theorem fieldS_all (wd : Int) (bs zs : List Int) (hT : 0 ≤ topI wd) (hz : ∀ n ∈ zs, 0 ≤ n ∧ n ≤ topI wd) : fieldS wd bs false zs = (bs ++ zs.flatMap (leB wd.toNat), false) := by
  unfold fieldS
  rw [if_neg (by decide), if_neg (by omega)]
  induction zs generalizing bs with
  | nil => simp [putF]
  | cons n zs ih =>
    have h1 := hz n (by simp)
    rw [putF, if_pos (okN_iff.2 h1), ih _ (fun m hm => hz m (by simp [hm]))]
    simp
theorem field1_4 {bs : List Int} {n : Int} (h0 : 0 ≤ n) (h1 : n ≤ 4294967295) : fieldS 4 bs false [n] = (bs ++ leB 4 n, false) := field1 (wd := 4) (by decide) h0 h1
def rowB (zs : List Int) : List Int := leB 1 zs.length ++ zs.flatMap (leB 6)
theorem rowS_all (bs zs : List Int) (hn : zs.length ≤ 255) (hz : ∀ n ∈ zs, 0 ≤ n ∧ n ≤ 1099511627776) : rowS bs false zs = (bs ++ rowB zs, false) := by
  unfold rowS
  rw [if_neg (by decide), if_pos (by omega), fieldS_all 6 _ _ (by decide) hz]
  simp [rowB]
def textB (ys : List Int) : List Int := leB 2 ys.length ++ ys
theorem textS_all (bs ys : List Int) (hn : ys.length ≤ 65535) : textS bs false ys = (bs ++ textB ys, false) := by
  unfold textS
  rw [if_neg (by decide), if_pos (by omega)]
  simp [textB]
def sumsB (us : List Int) : List Int := us.flatMap (leB 4)
theorem sumsB_length (us : List Int) : (sumsB us).length = 4 * us.length := by
  induction us with
  | nil => rfl
  | cons u us ih => simp only [sumsB, List.flatMap_cons, List.length_append, List.length_cons, leB_length] at ih ⊢; omega
theorem sumsB_step {us : List Int} {k : Nat} {u : Int} (h : us[k]? = some u) : sumsB (us.take (k + 1)) = sumsB (us.take k) ++ leB 4 u := by
  rw [take_snoc' h, sumsB, List.flatMap_append]; simp [sumsB]
theorem rowB_length (zs : List Int) : (rowB zs).length = 1 + 6 * zs.length := by
  have h : (zs.flatMap (leB 6)).length = 6 * zs.length := by
    induction zs with
    | nil => rfl
    | cons u us ih => simp only [List.flatMap_cons, List.length_append, List.length_cons, leB_length] at ih ⊢; omega
  simp [rowB, leB_length, h]
def carryB (l : Let) : List Int := idB l.slast ++ rowB l.mems ++ leB 4 l.size ++ leB 1 l.sums.length ++ sumsB l.sums ++ leB 1 l.piece ++ textB l.bs
structure Let.carries (l : Let) : Prop where
  f1 : l.slast.fits
  f2 : l.mems.length ≤ 255
  f3 : ∀ m ∈ l.mems, 0 ≤ m ∧ m ≤ 1099511627776
  f4 : 0 ≤ l.size ∧ l.size ≤ 4294967295
  f5 : l.sums.length ≤ 255
  f6 : ∀ x ∈ l.sums, 0 ≤ x ∧ x ≤ 4294967295
  f7 : 0 ≤ l.piece ∧ l.piece ≤ 255
  f8 : l.bs.length ≤ 65535
/-- What a letter holds lies apart from a writer. -/
structure Let.off (S : Nat → Prop) (l : Let) : Prop where
  w1 : l.want ≠ [] → Off S l.wA
  e1 : l.ents ≠ [] → Off S l.eA
  e2 : ∀ e ∈ l.ents, e.bs ≠ [] → Off S e.bA
  m1 : l.mems ≠ [] → Off S l.mA
  u1 : l.sums ≠ [] → Off S l.uA
  b1 : l.bs ≠ [] → Off S l.bA
def SumRel (B wb : Nat) (A : Option Addr) (b0 : List Int) (l : Let) (w w0 : World) (i : Value) (wr : World) : Prop :=
  ∃ (k : Nat) (A' : Option Addr) (c' : Nat), k ≤ l.sums.length ∧ i = .int .i64 k ∧ WP 61 B wb A w (b0 ++ sumsB (l.sums.take k)) false wr A' c' ∧ wr.heap[w0.heap.size]? = some (.cells l.arr 34)
set_option maxRecDepth 100000 in
set_option maxHeartbeats 2000000 in
theorem carry_put (B wb : Nat) (A : Option Addr) (c : Nat) (bs : List Int) (l : Let) (hc : l.carries) (w : World) (hW : Wr 61 B w wb A c bs false) (hB : B ≤ w.heap.size) (hl : bs.length ≤ 100000)
    (hin : l.inW w) (hO : l.off (touched wb A)) :
    Calls Tryz.prog 70 #[.pointer (some ⟨wb, 0, none⟩), l.v] w fun e w' => e = .returned (.tuple #[]) ∧ WStep 61 B wb A w (bs ++ carryB l) false w' := by
  have hm1 := Lib.hid (hin.m1.ext ((Ext.refl w).alloc (.cells l.arr 34)))
  have hu1 := Lib.hid (hin.u1.ext ((Ext.refl w).alloc (.cells l.arr 34)))
  have hb1 := Lib.hid (hin.b1.ext ((Ext.refl w).alloc (.cells l.arr 34)))
  have om := Lib.hid hO.m1
  have ou := Lib.hid hO.u1
  have ob := Lib.hid hO.b1
  have HC := Lib.hid hc
  have c2 := hc.f2
  have c4 := hc.f4.1
  have c5 := hc.f5
  have c7 := hc.f7.1
  have c8 := hc.f8
  have lr := rowB_length l.mems
  clear hin hO hc
  have hlt := hW.lt
  have hW0 := hW.ext ((Ext.refl w).alloc (.cells l.arr 34))
  have HNT := Lib.hid (not_touched_new hW)
  have HG0 := Lib.hid (heap_alloc_new w (.cells l.arr 34))
  have HP0 := Lib.hid (WP.start hW0)
  have r0 := cell_of_heap HG0.out
  have z0 : w.heap.size + 1 ≤ (w.alloc (.cells l.arr 34)).heap.size := by simp
  have hV : l.v = .agg l.arr := rfl
  rw [hV]
  clear hV hW0
  go_enter Tryz.func70, Tryz.ntmps70
  go_wp2_with fail
  refine (ident_put B wb _ _ bs l.slast HC.out.f1 _ HP0.out.1 (by omega) (by omega)).mono ?_
  rintro e w1 ⟨rfl, hS1⟩
  obtain ⟨A1, c1, P1⟩ := HP0.out.step hS1
  clear hS1
  have z1 := P1.size
  rw [World.size_alloc] at z1
  have g1 := (P1.heap (i := w.heap.size) (by simp) HNT.out).trans HG0.out
  have r1 := cell_of_heap g1
  have HP1 := Lib.hid P1
  clear g1 P1 r0
  go_wp2_with fail
  refine (row_any B wb _ _ (bs ++ idB l.slast) false l.mA l.mc l.mems _ HP1.out.1 (by omega) (HP1.out.rd hm1.out om.out) (HP1.out.off hm1.out om.out) (by simp [idB_length]; omega) (by omega)).mono ?_
  rintro e w2 ⟨rfl, hS2⟩
  rw [rowS_all _ _ HC.out.f2 HC.out.f3] at hS2
  obtain ⟨A2, c2_, P2⟩ := HP1.out.step hS2
  clear hS2
  have z2 := P2.size
  rw [World.size_alloc] at z2
  have g2 := (P2.heap (i := w.heap.size) (by simp) HNT.out).trans HG0.out
  have r2 := cell_of_heap g2
  have HP2 := Lib.hid P2
  clear g2 P2 r1
  go_wp2_with fail
  have Pa2 := HP2.out.ext ((Ext.refl _).alloc (.cells #[.int .i64 l.size] 3))
  refine (field_any B wb _ _ _ false 4 _ 1 [l.size] _ Pa2.1 (by simp; omega) (rd_one _ (.int .i64 l.size) 3) (fun _ => off_new HP2.out.1) (by simp [leB_length, idB_length, lr]; omega)).mono ?_
  rintro e w3 ⟨rfl, hS3⟩
  rw [field1_4 HC.out.f4.1 HC.out.f4.2] at hS3
  obtain ⟨A3, c3, P3⟩ := Pa2.step hS3
  clear hS3 Pa2
  have z3 := P3.size
  rw [World.size_alloc] at z3
  have g3 := (P3.heap (i := w.heap.size) (by simp) HNT.out).trans HG0.out
  have r3 := cell_of_heap g3
  have HP3 := Lib.hid P3
  clear g3 P3 r2
  go_wp2_with fail
  have Pa3 := HP3.out.ext ((Ext.refl _).alloc (.cells #[.int .i64 (l.sums.length : Int)] 3))
  refine (field_any B wb _ _ _ false 1 _ 1 [(l.sums.length : Int)] _ Pa3.1 (by simp; omega) (rd_one _ (.int .i64 (l.sums.length : Int)) 3) (fun _ => off_new HP3.out.1) (by simp [leB_length, idB_length, lr]; omega)).mono ?_
  rintro e w4 ⟨rfl, hS4⟩
  rw [field1_1 (by omega) (by omega)] at hS4
  obtain ⟨A4, c4_, P4⟩ := Pa3.step hS4
  clear hS4 Pa3
  have z4 := P4.size
  rw [World.size_alloc] at z4
  have g4 := (P4.heap (i := w.heap.size) (by simp) HNT.out).trans HG0.out
  have r4 := cell_of_heap g4
  have HP4 := Lib.hid P4
  clear g4 P4 r3
  have HB0 : Hid (∃ b0, b0 = bs ++ idB l.slast ++ rowB l.mems ++ leB 4 l.size ++ leB 1 l.sums.length) := Lib.hid ⟨_, rfl⟩
  obtain ⟨b0, hb0⟩ := HB0.out
  rw [← hb0] at HP4
  have hb0l : b0.length ≤ 110000 := by rw [hb0]; simp [leB_length, idB_length, lr]; omega
  have HB0' := Lib.hid hb0
  clear HB0 hb0
  have hlt4 : w.heap.size < w4.heap.size := by omega
  have HG4 := Lib.hid ((HP4.out.heap (i := w.heap.size) (by simp) HNT.out).trans HG0.out)
  go_wp2_with fail
  go_loopw [33] (fun i wr => SumRel B wb A b0 l (w.alloc (.cells l.arr 34)) w i wr) (fun i _ => l.sums.length - (intOf i).toNat)
  case atStart => exact ⟨0, A4, c4_, Nat.zero_le _, rfl, by simpa [sumsB] using HP4.out, HG4.out⟩
  case round =>
    obtain ⟨k, A5, c5_, hk, rfl, P5, hG5⟩ := hrel
    have hsz := P5.size
    rw [World.size_alloc] at hsz
    have HP5 := Lib.hid P5
    have HG5 := Lib.hid hG5
    clear P5 hG5 r4
    by_cases hlt2 : k < l.sums.length
    · obtain ⟨ad, x, hax, hcx, hx1⟩ := (HP5.out.rd hu1.out ou.out).int hlt2
      have HX := Lib.hid (sumsB_step hx1)
      have hf := HC.out.f6 x (mem_of_get hx1)
      have hf0 := hf.1
      clear hx1
      rw [hax]
      have hcv : IntKind.i64.wrap x = x := IntWalk.i64_in x (by omega)
      have hlen := sumsB_length (l.sums.take k)
      rw [List.length_take] at hlen
      go_wp2_with fail
      have Pa5 := HP5.out.ext ((Ext.refl _).alloc (.cells #[.int .i64 x] 3))
      refine (field_any B wb _ _ _ false 4 _ 1 [x] _ Pa5.1 (by simp; omega) (rd_one _ (.int .i64 x) 3) (fun _ => off_new HP5.out.1) (by simp; omega)).mono ?_
      rintro e w6 ⟨rfl, hS6⟩
      rw [field1_4 hf.1 hf.2] at hS6
      obtain ⟨A6, c6, P6⟩ := Pa5.step hS6
      have HP6 := Lib.hid P6
      have HG6 := Lib.hid ((P6.heap (i := w.heap.size) (by simp) HNT.out).trans HG0.out)
      clear hS6 Pa5 P6
      go_wp2_with fail
      go_roundw
      case rel => exact ⟨k + 1, A6, c6, by omega, by go_num, by rw [HX.out, ← List.append_assoc]; exact HP6.out, HG6.out⟩
      case measure => simp [intOf]; omega
    · obtain rfl : k = l.sums.length := by omega
      have h5 := HP5.out
      rw [List.take_length] at h5
      have HQ := Lib.hid h5
      have ls := sumsB_length l.sums
      have r5 := cell_of_heap HG5.out
      clear h5 HP5
      have HP5 := HQ
      go_wp2_with fail
      have Pa5 := HP5.out.ext ((Ext.refl _).alloc (.cells #[.int .i64 l.piece] 3))
      refine (field_any B wb _ _ _ false 1 _ 1 [l.piece] _ Pa5.1 (by simp; omega) (rd_one _ (.int .i64 l.piece) 3) (fun _ => off_new HP5.out.1) (by simp [leB_length]; omega)).mono ?_
      rintro e w6 ⟨rfl, hS6⟩
      rw [field1_1 HC.out.f7.1 HC.out.f7.2] at hS6
      obtain ⟨A6, c6, P6⟩ := Pa5.step hS6
      clear hS6 Pa5
      have z6 := P6.size
      rw [World.size_alloc] at z6
      have g6 := (P6.heap (i := w.heap.size) (by simp) HNT.out).trans HG0.out
      have r6 := cell_of_heap g6
      have HP6 := Lib.hid P6
      clear g6 P6 r5
      go_wp2_with fail
      refine (text_any B wb _ _ _ false l.bA l.bc l.bs _ HP6.out.1 (by omega) (HP6.out.rd hb1.out ob.out) (HP6.out.off hb1.out ob.out) (by simp [leB_length]; omega) (by omega)).mono ?_
      rintro e w7 ⟨rfl, hS7⟩
      rw [textS_all _ _ HC.out.f8] at hS7
      obtain ⟨A7, c7_, P7⟩ := HP6.out.step hS7
      clear hS7
      have z7 := P7.size
      rw [World.size_alloc] at z7
      have g7 := (P7.heap (i := w.heap.size) (by simp) HNT.out).trans HG0.out
      have r7 := cell_of_heap g7
      have HP7 := Lib.hid P7
      clear g7 P7 r6
      go_wp2_with fail
      go_end0
      have h := HP7.out
      rw [HB0'.out] at h
      have h2 := h.done
      rw [show bs ++ idB l.slast ++ rowB l.mems ++ leB 4 l.size ++ leB 1 l.sums.length ++ sumsB l.sums ++ leB 1 l.piece ++ textB l.bs = bs ++ carryB l by simp [carryB]] at h2
      exact ⟨rfl, WStep.ext ((Ext.refl w).alloc _) h2⟩
end Go.Proofs.YtcapapnhlkmeaaaGreatDoor
