/-
  Rows of letters are the same.
  LentLetters: letters are lent.
  KeptLetters: what was lent is as it was.
-/
import Derived.Test.YtjnllilmimngoaaGreatDoorM30
import Derived.Test.YtjnllilmimngoaaGreatDoorM31
import Derived.Test.YtjnllilmimngoaaGreatDoorM19
import Derived.Test.YtjnllilmimngoaaGreatDoorM21
import Derived.Test.YtjnllilmimngoaaGreatDoorM20
namespace Go.Proofs.YtjnllilmimngoaaGreatDoor
open Go.RowKit

def SlRel (n : Nat) (w : World) (i : Value) (wr : World) : Prop := ∃ k : Nat, k ≤ n ∧ i = .int .i64 k ∧ Ext w wr
set_option maxRecDepth 100000 in
set_option maxHeartbeats 1000000 in
theorem sameLets_true (A D : Option Addr) (c d : Nat) (xs ys : List Let) (w : World) (hA : LetsIn w A xs) (hD : LetsIn w D ys) (h : xs.map Let.cont = ys.map Let.cont) (hl : xs.length ≤ 1000000) :
    Calls Tryz.prog 36 #[.slice A xs.length c, .slice D ys.length d] w fun e w' => e = .returned (.bool true) ∧ Ext w w' := by
  have hlen : xs.length = ys.length := by simpa using congrArg List.length h
  rw [← hlen]
  have HH := Lib.hid h
  have HLEN := Lib.hid hlen
  clear h hlen
  go_enter Tryz.func36, Tryz.ntmps36
  go_wp2
  go_loopw [5] (fun i wr => SlRel xs.length w i wr) (fun i _ => xs.length - (intOf i).toNat)
  case atStart => exact ⟨0, Nat.zero_le _, rfl, Ext.refl _⟩
  case round =>
    obtain ⟨k, hk, rfl, hE⟩ := hrel
    have HE := Lib.hid hE
    clear hE
    by_cases hlt : k < xs.length
    · obtain ⟨ba, fa, a, rfl, ha, hra, hia⟩ := (hA.ext HE.out).at_ hlt
      obtain ⟨bd, fd, b, rfl, hb, hrb, hib⟩ := (hD.ext HE.out).at_ (k := k) (by rw [← HLEN.out]; exact hlt)
      have hab : a.cont = b.cont := by
        have h1 := congrArg (fun l => l[k]?) HH.out
        simpa [ha, hb] using h1
      have HS := Lib.hid (fun wx (h : Ext wr wx) => sameLet_any a b wx (hia.ext h) (hib.ext h))
      rw [show decide (a.cont = b.cont) = true by simpa using hab] at HS
      have VA := Lib.hid hra
      have VB := Lib.hid hrb
      clear ha hra hia hb hrb hib hab
      go_wp2_with fail
      refine Stab.wp_region_lex Ext (Ext wr) (fun _ => True) (by kernel_rfl) (by kernel_rfl) (fun _ _ h => h) (fun _ _ h k => Ext.trans h k) (fun _ _ _ _ => trivial) ((Ext.refl _).drew) trivial ?_
      simp only [Stab.zipL, Nat.reduceAdd]
      iterate 3 (refine Stab.wpX_val rfl rfl ?_; apply Exists.intro; refine ⟨fun wx hC _ => ?_, ?_⟩; (go_simp; exact ⟨Ext.refl _, rfl⟩); simp only [Act.put, List.setIfInBounds_toArray, List.set_cons_zero, List.set_cons_succ])
      (refine Stab.wpX_val rfl rfl ?_; apply Exists.intro; refine ⟨fun wx hC _ => ?_, ?_⟩; (exact yieldsP_let _ rfl ba (fa + k * 23) a rfl (fun j v hv => hC.cell (VA.out j v hv))); simp only [Act.put, List.setIfInBounds_toArray, List.set_cons_zero, List.set_cons_succ])
      iterate 3 (refine Stab.wpX_val rfl rfl ?_; apply Exists.intro; refine ⟨fun wx hC _ => ?_, ?_⟩; (go_simp; exact ⟨Ext.refl _, rfl⟩); simp only [Act.put, List.setIfInBounds_toArray, List.set_cons_zero, List.set_cons_succ])
      (refine Stab.wpX_val rfl rfl ?_; apply Exists.intro; refine ⟨fun wx hC _ => ?_, ?_⟩; (exact yieldsP_let _ rfl bd (fd + k * 23) b rfl (fun j v hv => hC.cell (VB.out j v hv))); simp only [Act.put, List.setIfInBounds_toArray, List.set_cons_zero, List.set_cons_succ])
      refine Stab.wpX_call1 rfl rfl (fun _ _ _ _ => trivial) ?_; apply Exists.intro; refine ⟨fun wx hC _ _ => ?_, ?_⟩; (go_simp; refine ⟨rfl, ?_⟩; refine (HS.out wx hC).mono ?_; rintro ev w9 ⟨rfl, hE9⟩; first | exact ⟨hE9, rfl⟩ | exact ⟨hE9, rfl, trivial⟩); simp only [Act.put, List.setIfInBounds_toArray, List.set_cons_zero, List.set_cons_succ]
      iterate 1 (refine Stab.wpX_val rfl rfl ?_; apply Exists.intro; refine ⟨fun wx hC _ => ?_, ?_⟩; (go_simp; exact ⟨Ext.refl _, rfl⟩); simp only [Act.put, List.setIfInBounds_toArray, List.set_cons_zero, List.set_cons_succ])
      refine Stab.wpX_end fun w8 hC8 _ _ => ?_
      have HC8 := Lib.hid hC8
      clear hC8
      go_wp2_with fail
      go_roundw
      case rel => exact ⟨k + 1, by omega, by go_num, HE.out.trans HC8.out⟩
      case measure => simp [intOf]; omega
    · obtain rfl : k = xs.length := by omega
      go_wp2
      go_ret
      exact ⟨rfl, HE.out⟩

/-- What was lent goes on as it is, where only blocks below change. -/
theorem LetLent.fr {B : Nat} {S : Nat → Prop} {l l' : Let} {w w' : World} (h : LetLent B l l' w) (hF : Fr S w w') (hS : ∀ i, S i → i < B) (hl : l.light) : LetLent B l l' w' := by
  have off : ∀ {g : Nat}, B ≤ g → Off S (some ⟨g, 0, none⟩) := fun {g} hg ad ha ht => by
    injection ha with ha
    subst ha
    have h2 : g < B := hS _ ht
    omega
  have he : l'.ents = [] := by
    obtain ⟨B', h1, _⟩ := h.n2
    rw [hl.e] at h1
    exact List.eq_nil_of_length_eq_zero h1
  refine ⟨h.e1, h.e2, h.e3, h.e4, h.e5, h.e6, h.e7, h.e8, h.e9, h.e10, h.e11, h.e12, ?_, h.w2, ?_, ?_, h.n3, ?_, h.m2, ?_, h.u2, ?_, h.b2⟩
  · obtain ⟨g, a, b, d⟩ := h.w1
    exact ⟨g, a, b.fr hF (fun _ => off d), d⟩
  · obtain ⟨g, a, b, d⟩ := h.n1
    refine ⟨g, a, ⟨b.1.fr hF (fun _ => off d) (fun e he2 hn => ?_), b.2.fr hF (fun t => by have := hS g t; omega)⟩, d⟩
    rw [he, List.nil_append] at he2
    obtain ⟨j, _, rfl⟩ := List.mem_map.1 he2
    exact absurd rfl hn
  · obtain ⟨B', h1, h2⟩ := h.n2
    exact ⟨B', h1, fun j e hj => by rw [hl.e] at hj; simp at hj⟩
  · obtain ⟨g, a, b, d⟩ := h.m1
    exact ⟨g, a, b.fr hF (off d), d⟩
  · obtain ⟨g, a, b, d⟩ := h.u1
    exact ⟨g, a, b.fr hF (off d), d⟩
  · obtain ⟨g, a, b, d⟩ := h.b1
    exact ⟨g, a, b.fr hF (off d), d⟩
theorem LetLent.light {B : Nat} {l l' : Let} {w : World} (h : LetLent B l l' w) (hl : l.light) : l'.light := by
  obtain ⟨B', h1, _⟩ := h.n2
  rw [hl.e] at h1
  exact ⟨h.w2.1.trans hl.w, List.eq_nil_of_length_eq_zero h1, h.m2.1.trans hl.m, h.u2.1.trans hl.u, h.b2.1.trans hl.b⟩
theorem LetLent.cont {B : Nat} {l l' : Let} {w : World} (h : LetLent B l l' w) (hl : l.light) : l'.cont = l.cont := by
  have h2 := h.light hl
  unfold Let.cont Let.snc
  rw [h.e1, h.e2, h.e3, h.e4, h.e5, h.e6, h.e7, h.e8, h.e9, h.e10, h.e11, h.e12, h2.w, h2.e, h2.m, h2.u, h2.b, hl.w, hl.e, hl.m, hl.u, hl.b]
def lentRows (l : Let) (i : Nat) : Prop := blk l.wA i ∨ blk l.eA i ∨ blk l.mA i ∨ blk l.uA i ∨ blk l.bA i
/-- What the rows of a lent letter are, seen from their blocks. -/
structure LentHas (B : Nat) (l : Let) (w : World) : Prop where
  w1 : ∃ g, l.wA = some ⟨g, 0, none⟩ ∧ 12 ≤ l.wc ∧ HasRow 3 w g l.wc ∧ B ≤ g
  e1 : ∃ g, l.eA = some ⟨g, 0, none⟩ ∧ 12 ≤ l.ec ∧ HasRow 4 w g l.ec ∧ B ≤ g
  m1 : ∃ g, l.mA = some ⟨g, 0, none⟩ ∧ 12 ≤ l.mc ∧ HasRow 1 w g l.mc ∧ B ≤ g
  u1 : ∃ g, l.uA = some ⟨g, 0, none⟩ ∧ 12 ≤ l.uc ∧ HasRow 1 w g l.uc ∧ B ≤ g
  b1 : ∃ g, l.bA = some ⟨g, 0, none⟩ ∧ 12 ≤ l.bc ∧ HasRow 1 w g l.bc ∧ B ≤ g
theorem LetLent.has {B : Nat} {l l' : Let} {w : World} (h : LetLent B l l' w) : LentHas B l' w := by
  refine ⟨?_, ?_, ?_, ?_, ?_⟩
  · obtain ⟨g, a, b, d⟩ := h.w1
    exact ⟨g, a, by have := h.w2.2; omega, b.2, d⟩
  · obtain ⟨g, a, b, d⟩ := h.n1
    exact ⟨g, a, by have := h.n3; omega, b.2, d⟩
  · obtain ⟨g, a, b, d⟩ := h.m1
    exact ⟨g, a, by have := h.m2.2; omega, b.2, d⟩
  · obtain ⟨g, a, b, d⟩ := h.u1
    exact ⟨g, a, by have := h.u2.2; omega, b.2, d⟩
  · obtain ⟨g, a, b, d⟩ := h.b1
    exact ⟨g, a, by have := h.b2.2; omega, b.2, d⟩
theorem LentHas.sh {B : Nat} {l : Let} {w w' : World} (h : LentHas B l w) (hs : Sh w w') : LentHas B l w' := by
  refine ⟨?_, ?_, ?_, ?_, ?_⟩
  · obtain ⟨g, a, b, d, e⟩ := h.w1
    exact ⟨g, a, b, d.sh hs, e⟩
  · obtain ⟨g, a, b, d, e⟩ := h.e1
    exact ⟨g, a, b, d.sh hs, e⟩
  · obtain ⟨g, a, b, d, e⟩ := h.m1
    exact ⟨g, a, b, d.sh hs, e⟩
  · obtain ⟨g, a, b, d, e⟩ := h.u1
    exact ⟨g, a, b, d.sh hs, e⟩
  · obtain ⟨g, a, b, d, e⟩ := h.b1
    exact ⟨g, a, b, d.sh hs, e⟩
end Go.Proofs.YtjnllilmimngoaaGreatDoor
namespace Go.Proofs.YtjnllilmimngoaaGreatDoor
open Go.RowKit

theorem rd_let (w : World) (u : Let) : Rd (w.alloc (.cells u.arr 35)) (some ⟨w.heap.size, 0, none⟩) (flat [u]) := fun j v hj => ⟨_, rfl, by
  rw [add_lit', Nat.zero_add, cell_of_heap (heap_alloc_new w _)]
  simpa [flat] using hj⟩
def mkLs (k : Nat) : List Let := (List.range k).map (mkLetK 1)
theorem mkLs_succ (k : Nat) : mkLs (k + 1) = mkLs k ++ [mkLetK 1 k] := by simp [mkLs, List.range_succ]
theorem mkLs_len (k : Nat) : (mkLs k).length = k := by simp [mkLs]
theorem LetLent.le {B B' : Nat} {l l' : Let} {w : World} (h : LetLent B l l' w) (hB : B' ≤ B) : LetLent B' l l' w := by
  refine ⟨h.e1, h.e2, h.e3, h.e4, h.e5, h.e6, h.e7, h.e8, h.e9, h.e10, h.e11, h.e12, ?_, h.w2, ?_, h.n2, h.n3, ?_, h.m2, ?_, h.u2, ?_, h.b2⟩
  · obtain ⟨g, a, b, d⟩ := h.w1
    exact ⟨g, a, b, by omega⟩
  · obtain ⟨g, a, b, d⟩ := h.n1
    exact ⟨g, a, b, by omega⟩
  · obtain ⟨g, a, b, d⟩ := h.m1
    exact ⟨g, a, b, by omega⟩
  · obtain ⟨g, a, b, d⟩ := h.u1
    exact ⟨g, a, b, by omega⟩
  · obtain ⟨g, a, b, d⟩ := h.b1
    exact ⟨g, a, b, by omega⟩
theorem infoELet : (Tryz.prog.info? 35).map (fun i => (i.zero, i.size, i.bytes)) = some (some (.agg voteZ.arr), 23, 264) := by kernel_rfl
theorem mk0Lets (n : Nat) (hn : n ≤ 100000) (w : World) : (Instr.makeSlice 22 (.int .i64 0) (.int .i64 ((n : Int) + 12))).run Tryz.prog w = .ok (.slice (some ⟨w.heap.size, 0, none⟩) 0 (n + 12)) (w.alloc (.cells (madeCells voteZ.arr ((n + 12) * 23)) 35)) := by
  obtain ⟨i0, hi, hz0, hz1, hz2⟩ := info_parts infoELet
  have hr := run_make (P := Tryz.prog) w 22 35 i0 _ Tryz.underlying22 hi hz0 .i64 .i64 0 ((n : Int) + 12) (by omega) (by omega) (by rw [hz2]; omega) (by omega)
  rw [hz1, show ((n : Int) + 12).toNat = n + 12 by omega] at hr
  exact hr
/-- Letters that were lent, in a row with marks behind. -/
structure LentRow (g : Nat) (ls ls' : List Let) (w : World) : Prop where
  o : OwnW 23 w g 35 (some ⟨g, 0, none⟩) (ls.length + 12) (ls.length + 12) (flat (ls' ++ mkLs 12))
  n : ls'.length = ls.length
  l : ∀ (j : Nat) (l : Let), ls[j]? = some l → ∃ l', ls'[j]? = some l' ∧ LetLent (g + 1) l l' w
def LmRel1 (ls : List Let) (w : World) (v i : Value) (wr : World) : Prop :=
  ∃ (k : Nat) (ls' : List Let), k ≤ ls.length ∧ i = .int .i64 k ∧ v = .slice (some ⟨w.heap.size, 0, none⟩) k (ls.length + 12) ∧ ls'.length = k ∧ OwnW 23 wr w.heap.size 35 (some ⟨w.heap.size, 0, none⟩) ls'.length (ls.length + 12) (flat ls') ∧
    (∀ (j : Nat) (l : Let), j < k → ls[j]? = some l → ∃ l', ls'[j]? = some l' ∧ LetLent (w.heap.size + 1) l l' wr) ∧ Ext w wr
def LmRel2 (ls ls' : List Let) (w : World) (v i : Value) (wr : World) : Prop :=
  ∃ (k : Nat), k ≤ 12 ∧ i = .int .i64 k ∧ v = .slice (some ⟨w.heap.size, 0, none⟩) (ls.length + k) (ls.length + 12) ∧ OwnW 23 wr w.heap.size 35 (some ⟨w.heap.size, 0, none⟩) (ls' ++ mkLs k).length (ls.length + 12) (flat (ls' ++ mkLs k)) ∧
    (∀ (j : Nat) (l : Let), ls[j]? = some l → ∃ l', ls'[j]? = some l' ∧ LetLent (w.heap.size + 1) l l' wr) ∧ Ext w wr
set_option maxRecDepth 100000 in
set_option maxHeartbeats 4000000 in
theorem lentLets_light (A : Option Addr) (c : Nat) (ls : List Let) (w : World) (hA : LetsIn w A ls) (hl : ∀ l ∈ ls, l.light) (hn : ls.length ≤ 10000) :
    Calls Tryz.prog 32 #[.slice A ls.length c] w fun e w' => ∃ ls', e = .returned (.slice (some ⟨w.heap.size, 0, none⟩) ls.length (ls.length + 12)) ∧ LentRow w.heap.size ls ls' w' ∧ Ext w w' := by
  have hmk := mk0Lets ls.length (by omega)
  have HO0 := Lib.hid (show OwnW 23 (w.alloc (.cells (madeCells voteZ.arr ((ls.length + 12) * 23)) 35)) w.heap.size 35 (some ⟨w.heap.size, 0, none⟩) 0 (ls.length + 12) [] from OwnN.made w w.heap.size 35 voteZ.arr 23 (ls.length + 12) (Nat.le_refl _) (by omega))
  have HA := Lib.hid hA
  have HLI := Lib.hid hl
  clear hA hl
  go_enter Tryz.func32, Tryz.ntmps32
  go_wp2_with fail
  clear hmk
  go_loopw [3, 4] (fun v i wr => LmRel1 ls w v i wr) (fun _ i _ => ls.length - (intOf i).toNat)
  case atStart => exact ⟨0, [], Nat.zero_le _, rfl, rfl, rfl, HO0.out, fun j l hj => by omega, (Ext.refl w).alloc _⟩
  case round =>
    obtain ⟨k, ls', hk, rfl, rfl, hlk, hO, hLL, hE⟩ := hrel
    have HO := Lib.hid hO
    have HLL := Lib.hid hLL
    have HE := Lib.hid hE
    clear hO hLL hE
    have hgl := (HO.out.lt (i := w.heap.size) rfl).2
    by_cases hlt : k < ls.length
    · obtain ⟨b, f, l, rfl, he, hr, hin⟩ := (HA.out.ext HE.out).at_ hlt
      have HLT := Lib.hid (HLI.out l (List.mem_of_getElem? he))
      have HEQ := Lib.hid he
      have HL1 := Lib.hid (lentLet_any l wr hin HLT.out.small.s1 HLT.out.small.s2 HLT.out.small.s3 HLT.out.small.s4 HLT.out.small.s5 HLT.out.small.s6)
      clear he hin
      go_wp2_with (refine wpList_load_letAt rfl _ rfl b (f + k * 23) l (by simp [Act.eval, Act.put]) hr ?_)
      refine (HL1.out).mono ?_
      rintro ev w1 ⟨l', rfl, hL1, hE1⟩
      have HL2 := Lib.hid (hL1.le (B' := w.heap.size + 1) (by omega))
      have HE1 := Lib.hid hE1
      clear hL1 hE1 hr
      go_wp2_with (first
        | (refine wpList_load_letAt rfl _ rfl w1.heap.size 0 l' rfl (range_heap HG8.out) ?_)
        | (refine wpList_store_all rfl _ _ rfl rfl w1.heap.size l' _ rfl rfl (heap_alloc_new w1 _) (by simp) ?_; intro w8 hG8 hF8; have HE8 := Lib.hid (show Ext w1 w8 from ((Fr.ofExt (isB w1.heap.size) ((Ext.refl w1).alloc _)).trans hF8 (fun _ _ h => h)).toExt (fun i hi => by unfold isB at hi; omega)); have HG8 := Lib.hid hG8; have HE9 := Lib.hid (HE1.out.trans (HE8.out.alloc (.cells l'.arr 35))); have hOg := HO.out.ext HE9.out; have hB8 := (HE.out.trans HE9.out).sz; clear hG8 hF8)
        | (refine wpList_buildL rfl _ l' rfl rfl ?_)
        | (at_builtin; refine appendLetsR _ rfl _ _ rfl w.heap.size (some ⟨w.heap.size, 0, none⟩) _ _ ls' rfl hlk.symm hOg _ 1 1 [l'] rfl rfl (rd_let w8 l') (by simp only [List.length_cons, List.length_nil]; omega) hB8 ?_; intro A9 c9 w9 hO9 hF9 hA9 hR9))
      rcases hR9 with ⟨_, rfl, rfl⟩ | ⟨hR9, _⟩
      rotate_left
      · simp only [List.length_cons, List.length_nil] at hR9
        omega
      have HO9 := Lib.hid hO9
      have HF9 := Lib.hid hF9
      clear hO9 hF9 hA9 hOg
      go_wp2_with fail
      go_roundw
      case rel =>
        refine ⟨k + 1, ls' ++ [l'], by omega, by go_num, rfl, by simp [hlk], HO9.out, fun j x hj hx => ?_, ?_⟩
        · by_cases hjk : j < k
          · obtain ⟨x', h1, h2⟩ := HLL.out j x hjk hx
            refine ⟨x', by rw [List.getElem?_append_left (by omega)]; exact h1, (h2.ext HE9.out).fr HF9.out (fun i hi => ?_) (HLI.out x (List.mem_of_getElem? hx))⟩
            have : i = w.heap.size := by simpa [blk] using hi.symm
            omega
          · obtain rfl : j = k := by omega
            rw [HEQ.out] at hx
            injection hx with hx
            subst hx
            refine ⟨l', by rw [List.getElem?_append_right (by omega), hlk]; simp, (HL2.out.ext (HE8.out.alloc _)).fr HF9.out (fun i hi => ?_) HLT.out⟩
            have : i = w.heap.size := by simpa [blk] using hi.symm
            omega
        · exact ((Fr.ofExt _ (HE.out.trans HE9.out)).trans HF9.out (fun _ _ t => t)).toExt (fun i hi => by
            have : i = w.heap.size := by simpa [blk] using hi.symm
            omega)
      case measure => simp [intOf]; omega
    · obtain rfl : k = ls.length := by omega
      go_wp2_with fail
      go_loopw [3, 6] (fun v i wr => LmRel2 ls ls' w v i wr) (fun _ i _ => 12 - (intOf i).toNat)
      case atStart => exact ⟨0, by omega, rfl, rfl, by simpa [mkLs] using HO.out, fun j l hj => HLL.out j l (List.getElem?_eq_some_iff.1 hj).1 hj, HE.out⟩
      case round =>
        clear HO HLL HE
        obtain ⟨k, hk2, rfl, rfl, hO, hLL, hE⟩ := hrel
        have HO := Lib.hid hO
        have HLL := Lib.hid hLL
        have HE := Lib.hid hE
        clear hO hLL hE
        by_cases hlt2 : k < 12
        · go_wp2_with fail
          refine (markLetterK 1 k _ (by omega) (by omega)).mono ?_
          rintro ev w1 ⟨rfl, hE1⟩
          have HE9 := Lib.hid (hE1.alloc (.cells (mkLetK 1 k).arr 35))
          have hOg := HO.out.ext HE9.out
          have hB8 := (HE.out.trans HE9.out).sz
          clear hE1
          go_wp2_with (first
            | (refine wpList_buildL rfl _ (mkLetK 1 k) rfl rfl ?_)
            | (at_builtin; refine appendLetsR _ rfl _ _ rfl w.heap.size (some ⟨w.heap.size, 0, none⟩) _ _ (ls' ++ mkLs k) rfl (by rw [List.length_append, hlk, mkLs_len]) hOg _ 1 1 [mkLetK 1 k] rfl rfl (rd_let w1 (mkLetK 1 k)) (by simp only [List.length_append, hlk, mkLs_len, List.length_cons, List.length_nil]; omega) hB8 ?_; intro A9 c9 w9 hO9 hF9 hA9 hR9))
          rcases hR9 with ⟨_, rfl, rfl⟩ | ⟨hR9, _⟩
          rotate_left
          · simp only [List.length_append, hlk, mkLs_len, List.length_cons, List.length_nil] at hR9
            omega
          have HO9 := Lib.hid hO9
          have HF9 := Lib.hid hF9
          clear hO9 hF9 hA9 hOg
          go_wp2_with fail
          go_roundw
          case rel =>
            refine ⟨k + 1, by omega, by go_num, by simp only [mkLs_len], by rw [mkLs_succ, ← List.append_assoc]; exact HO9.out, fun j x hx => ?_, ?_⟩
            · obtain ⟨x', h1, h2⟩ := HLL.out j x hx
              refine ⟨x', h1, (h2.ext HE9.out).fr HF9.out (fun i hi => ?_) (HLI.out x (List.mem_of_getElem? hx))⟩
              have : i = w.heap.size := by simpa [blk] using hi.symm
              omega
            · exact ((Fr.ofExt _ (HE.out.trans HE9.out)).trans HF9.out (fun _ _ t => t)).toExt (fun i hi => by
                have : i = w.heap.size := by simpa [blk] using hi.symm
                omega)
          case measure => simp [intOf]; omega
        · obtain rfl : k = 12 := by omega
          have hcd : 0 ≤ (ls.length : Int) ∧ (ls.length : Int) ≤ (ls.length : Int) + 12 := by omega
          go_wp2
          go_ret
          exact ⟨ls', rfl, ⟨by have h8 := HO.out; rw [List.length_append, hlk, mkLs_len] at h8; exact h8, hlk, HLL.out⟩, HE.out⟩
end Go.Proofs.YtjnllilmimngoaaGreatDoor
namespace Go.Proofs.YtjnllilmimngoaaGreatDoor
open Go.RowKit

theorem LentRow.lights {g : Nat} {ls ls' : List Let} {w : World} (h : LentRow g ls ls' w) (hl : ∀ l ∈ ls, l.light) : ∀ x ∈ ls' ++ mkLs 12, x.light := fun x hx => by
  rcases List.mem_append.1 hx with hx | hx
  · obtain ⟨j, hj⟩ := List.getElem?_of_mem hx
    have hjl := (List.getElem?_eq_some_iff.1 hj).1
    rw [h.n] at hjl
    obtain ⟨l', h1, h2⟩ := h.l j _ (List.getElem?_eq_getElem hjl)
    rw [hj] at h1
    injection h1 with h1
    subst h1
    exact h2.light (hl _ (List.getElem_mem hjl))
  · obtain ⟨j, _, rfl⟩ := List.mem_map.1 hx
    exact mkLetK_light 1 j
set_option maxRecDepth 100000 in
set_option maxHeartbeats 4000000 in
theorem keptLets_true (g : Nat) (A : Option Addr) (c : Nat) (ls ls' : List Let) (w : World) (hR : LentRow g ls ls' w) (hA : LetsIn w A ls) (hl : ∀ l ∈ ls, l.light) (hn : ls.length ≤ 10000) :
    Calls Tryz.prog 34 #[.slice (some ⟨g, 0, none⟩) ls.length (ls.length + 12), .slice A ls.length c] w fun e w' => e = .returned (.bool true) ∧ Ext w w' := by
  have HALL := Lib.hid (LetsIn.light hR.o (hR.lights hl))
  have HRR := Lib.hid hR
  have HA := Lib.hid hA
  have HLI := Lib.hid hl
  have hcd : 0 ≤ (ls.length : Int) + 12 ∧ (ls.length : Int) + 12 ≤ (ls.length : Int) + 12 := by omega
  clear hR hA hl
  go_enter Tryz.func34, Tryz.ntmps34
  go_wp2
  go_loopw [6] (fun i wr => SlRel (ls.length + 12) w i wr) (fun i _ => ls.length + 12 - (intOf i).toNat)
  case atStart => exact ⟨0, Nat.zero_le _, rfl, Ext.refl _⟩
  case round =>
    obtain ⟨k, hk, rfl, hE⟩ := hrel
    have HE := Lib.hid hE
    clear hE
    by_cases hlt : k < ls.length + 12
    · obtain ⟨ba, fa, a, hba, ha, hra, hia⟩ := (HALL.out.ext HE.out).at_ (k := k) (by rw [List.length_append, HRR.out.n, mkLs_len]; exact hlt)
      injection hba with hba
      injection hba with hba1 hba2 _
      subst hba1 hba2
      rw [Nat.zero_add] at hra
      have VA := Lib.hid hra
      by_cases hk2 : k < ls.length
      · obtain ⟨bd, fd, b, rfl, hb, hrb, hib⟩ := (HA.out.ext HE.out).at_ hk2
        have VB := Lib.hid hrb
        obtain ⟨l', h1, h2⟩ := HRR.out.l k b hb
        rw [List.getElem?_append_left (by rw [HRR.out.n]; exact hk2), h1] at ha
        injection ha with ha
        subst ha
        have hbl := HLI.out b (List.mem_of_getElem? hb)
        have HS := Lib.hid (fun wx (h : Ext wr wx) => keptLet_true b l' wx (hib.ext h) hbl.small (h2.ext (HE.out.trans h)))
        have dlt : decide ((k : Int) < (ls.length : Int)) = true := by simp; omega
        have dge : decide ((ls.length : Int) ≤ (k : Int)) = false := by simp; omega
        have dgn : decide (ls.length ≤ k) = false := decide_eq_false (by omega)
        clear hra hia hb hrb hib h1 h2 hbl
        go_wp2_with fail
        refine Stab.wp_region_lex Ext (Ext wr) (fun _ => True) (by kernel_rfl) (by kernel_rfl) (fun _ _ h => h) (fun _ _ h k => Ext.trans h k) (fun _ _ _ _ => trivial) ((Ext.refl _).drew) trivial ?_
        simp only [Stab.zipL, Nat.reduceAdd]
        iterate 8 (refine Stab.wpX_val rfl rfl ?_; apply Exists.intro; refine ⟨fun wx hC _ => ?_, ?_⟩; (go_simp; exact ⟨Ext.refl _, rfl⟩); simp only [Act.put, List.setIfInBounds_toArray, List.set_cons_zero, List.set_cons_succ])
        (refine Stab.wpX_val rfl rfl ?_; apply Exists.intro; refine ⟨fun wx hC _ => ?_, ?_⟩; (exact yieldsP_let _ rfl g (k * 23) l' rfl (fun j v hv => hC.cell (VA.out j v hv))); simp only [Act.put, List.setIfInBounds_toArray, List.set_cons_zero, List.set_cons_succ])
        iterate 3 (refine Stab.wpX_val rfl rfl ?_; apply Exists.intro; refine ⟨fun wx hC _ => ?_, ?_⟩; (go_simp; exact ⟨Ext.refl _, rfl⟩); simp only [Act.put, List.setIfInBounds_toArray, List.set_cons_zero, List.set_cons_succ])
        (refine Stab.wpX_val rfl rfl ?_; apply Exists.intro; refine ⟨fun wx hC _ => ?_, ?_⟩; (exact yieldsP_let _ rfl bd (fd + k * 23) b rfl (fun j v hv => hC.cell (VB.out j v hv))); simp only [Act.put, List.setIfInBounds_toArray, List.set_cons_zero, List.set_cons_succ])
        (refine Stab.wpX_call1 rfl rfl (fun _ _ _ _ => trivial) ?_; apply Exists.intro; refine ⟨fun wx hC _ _ => ?_, ?_⟩; (go_simp; refine ⟨rfl, ?_⟩; refine (HS.out wx hC).mono ?_; rintro ev w9 ⟨rfl, hE9⟩; first | exact ⟨hE9, rfl⟩ | exact ⟨hE9, rfl, trivial⟩); simp only [Act.put, List.setIfInBounds_toArray, List.set_cons_zero, List.set_cons_succ])
        iterate 8 (refine Stab.wpX_val rfl rfl ?_; apply Exists.intro; refine ⟨fun wx hC _ => ?_, ?_⟩; (go_simp; exact ⟨Ext.refl _, rfl⟩); simp only [Act.put, List.setIfInBounds_toArray, List.set_cons_zero, List.set_cons_succ])
        iterate 11 (refine Stab.wpX_skip rfl ?_; simp only [Act.put, List.setIfInBounds_toArray, List.set_cons_zero, List.set_cons_succ])
        iterate 2 (refine Stab.wpX_val rfl rfl ?_; apply Exists.intro; refine ⟨fun wx hC _ => ?_, ?_⟩; (go_simp; exact ⟨Ext.refl _, rfl⟩); simp only [Act.put, List.setIfInBounds_toArray, List.set_cons_zero, List.set_cons_succ])
        refine Stab.wpX_end fun w8 hC8 _ _ => ?_
        have HC8 := Lib.hid hC8
        clear hC8
        go_wp2_with fail
        go_roundw
        case rel => exact ⟨k + 1, by omega, by go_num, HE.out.trans HC8.out⟩
        case measure => simp [intOf]; omega
      · obtain ⟨j, rfl⟩ : ∃ j, k = ls.length + j := ⟨k - ls.length, by omega⟩
        have hj : j < 12 := by omega
        have ha2 : a = mkLetK 1 j := by
          rw [List.getElem?_append_right (by rw [HRR.out.n]; omega), HRR.out.n, Nat.add_sub_cancel_left] at ha
          simpa [mkLs, hj] using ha.symm
        subst ha2
        have HS := Lib.hid (fun wx => sameLet_any (mkLetK 1 j) (mkLetK 1 j) wx ((mkLetK_light 1 j).inW wx) ((mkLetK_light 1 j).inW wx))
        rw [show decide ((mkLetK 1 j).cont = (mkLetK 1 j).cont) = true by simp] at HS
        have HM := Lib.hid (fun wx => markLetterK 1 j wx (by omega) (by omega))
        have xj : IntKind.i64.wrap ((ls.length : Int) + (j : Int) - (ls.length : Int)) = (j : Int) := by
          rw [show (ls.length : Int) + (j : Int) - (ls.length : Int) = (j : Int) by omega]
          exact IntWalk.i64_in _ (by omega)
        have dlt : decide ((ls.length : Int) + (j : Int) < (ls.length : Int)) = false := decide_eq_false (by omega)
        have dge : decide ((ls.length : Int) ≤ (ls.length : Int) + (j : Int)) = true := decide_eq_true (by omega)
        clear hra hia ha hk2
        go_wp2_with fail
        refine Stab.wp_region_lex Ext (Ext wr) (fun _ => True) (by kernel_rfl) (by kernel_rfl) (fun _ _ h => h) (fun _ _ h k => Ext.trans h k) (fun _ _ _ _ => trivial) ((Ext.refl _).drew) trivial ?_
        simp only [Stab.zipL, Nat.reduceAdd]
        iterate 5 (refine Stab.wpX_val rfl rfl ?_; apply Exists.intro; refine ⟨fun wx hC _ => ?_, ?_⟩; (go_simp; exact ⟨Ext.refl _, rfl⟩); simp only [Act.put, List.setIfInBounds_toArray, List.set_cons_zero, List.set_cons_succ])
        iterate 10 (refine Stab.wpX_skip rfl ?_; simp only [Act.put, List.setIfInBounds_toArray, List.set_cons_zero, List.set_cons_succ])
        iterate 10 (refine Stab.wpX_val rfl rfl ?_; apply Exists.intro; refine ⟨fun wx hC _ => ?_, ?_⟩; (go_simp; exact ⟨Ext.refl _, rfl⟩); simp only [Act.put, List.setIfInBounds_toArray, List.set_cons_zero, List.set_cons_succ])
        (refine Stab.wpX_val rfl rfl ?_; apply Exists.intro; refine ⟨fun wx hC _ => ?_, ?_⟩; (exact yieldsP_let _ rfl g ((ls.length + j) * 23) (mkLetK 1 j) rfl (fun j v hv => hC.cell (VA.out j v hv))); simp only [Act.put, List.setIfInBounds_toArray, List.set_cons_zero, List.set_cons_succ])
        iterate 4 (refine Stab.wpX_val rfl rfl ?_; apply Exists.intro; refine ⟨fun wx hC _ => ?_, ?_⟩; (go_simp; exact ⟨Ext.refl _, rfl⟩); simp only [Act.put, List.setIfInBounds_toArray, List.set_cons_zero, List.set_cons_succ])
        (refine Stab.wpX_call1 rfl rfl (fun _ _ _ _ => trivial) ?_; apply Exists.intro; refine ⟨fun wx hC _ _ => ?_, ?_⟩; (go_simp; refine ⟨rfl, ?_⟩; refine (HM.out wx).mono ?_; rintro ev w9 ⟨rfl, hE9⟩; first | exact ⟨hE9, rfl⟩ | exact ⟨hE9, rfl, trivial⟩); simp only [Act.put, List.setIfInBounds_toArray, List.set_cons_zero, List.set_cons_succ])
        (refine Stab.wpX_call1 rfl rfl (fun _ _ _ _ => trivial) ?_; apply Exists.intro; refine ⟨fun wx hC _ _ => ?_, ?_⟩; (go_simp; refine ⟨rfl, ?_⟩; refine (HS.out wx).mono ?_; rintro ev w9 ⟨rfl, hE9⟩; first | exact ⟨hE9, rfl⟩ | exact ⟨hE9, rfl, trivial⟩); simp only [Act.put, List.setIfInBounds_toArray, List.set_cons_zero, List.set_cons_succ])
        iterate 3 (refine Stab.wpX_val rfl rfl ?_; apply Exists.intro; refine ⟨fun wx hC _ => ?_, ?_⟩; (go_simp; exact ⟨Ext.refl _, rfl⟩); simp only [Act.put, List.setIfInBounds_toArray, List.set_cons_zero, List.set_cons_succ])
        refine Stab.wpX_end fun w8 hC8 _ _ => ?_
        have HC8 := Lib.hid hC8
        clear hC8
        go_wp2_with fail
        go_roundw
        case rel => exact ⟨ls.length + j + 1, by omega, by go_num, HE.out.trans HC8.out⟩
        case measure => simp [intOf]; omega
    · obtain rfl : k = ls.length + 12 := by omega
      go_wp2
      go_ret
      exact ⟨rfl, HE.out⟩
end Go.Proofs.YtjnllilmimngoaaGreatDoor
