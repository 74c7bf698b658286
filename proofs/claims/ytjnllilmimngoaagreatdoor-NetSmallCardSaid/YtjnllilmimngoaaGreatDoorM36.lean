/-
  Each call leaves both nets the same.
  Send and Take on both nets.
  does: Drop, Cut.
-/
import Derived.Test.YtjnllilmimngoaaGreatDoorM35
import Derived.Test.YtjnllilmimngoaaGreatDoorM14
namespace Go.Proofs.YtjnllilmimngoaaGreatDoor
open Go.RowKit

/-- The counts are at most m. -/
structure SB (s : NetS) (m : Int) : Prop where
  f1 : s.us.length ≤ 10000
  f2 : 0 ≤ s.sent ∧ s.sent ≤ m
  f3 : 0 ≤ s.gone ∧ s.gone ≤ m
  f4 : 0 ≤ s.lost ∧ s.lost ≤ m
  f5 : 0 ≤ s.twice ∧ s.twice ≤ m
theorem SB.fits {s : NetS} {m : Int} (h : SB s m) (hm : m ≤ 1000000) : s.fits := by
  obtain ⟨h1, h2, h3, h4, h5⟩ := h
  exact ⟨h1, by omega, by omega, by omega, by omega⟩
theorem SB.up {s : NetS} {m m' : Int} (h : SB s m) (hm : m ≤ m') : SB s m' := by
  obtain ⟨h1, h2, h3, h4, h5⟩ := h
  exact ⟨h1, by omega, by omega, by omega, by omega⟩
def dropC (n : Nat) : Int := if n = 0 then 7 else 0
def at' (i : Int) (n : Nat) : Nat := (i % (n : Int)).toNat
def dropS (s : NetS) (i : Int) : NetS := if s.us.length = 0 then s else { s with us := s.us.eraseIdx (at' i s.us.length), lost := s.lost + 1 }
def dropR (r : RefS) (i : Int) : RefS := if r.us.length = 0 then r else { r with us := r.us.eraseIdx (at' i r.us.length), lost := r.lost + 1 }
def cutC (i : Int) : Int := if 1 ≤ i ∧ i ≤ 7 then 0 else 2
def cutS (s : NetS) (i : Int) (b : Bool) : NetS := if 1 ≤ i ∧ i ≤ 7 then { s with off := s.off.set i.toNat b } else s
def cutRS (r : RefS) (i : Int) (b : Bool) : RefS := if 1 ≤ i ∧ i ≤ 7 then { r with cuts := cutsUp (cutF r.cuts i b) 7 } else r
def copyC (n : Nat) : Int := if n = 0 then 7 else if n = 10000 then 3 else 0
def CopyS (s : NetS) (i : Int) (s' : NetS) : Prop := (copyC s.us.length ≠ 0 ∧ s' = s) ∨ (copyC s.us.length = 0 ∧ ∃ u u' : Let, s.us[at' i s.us.length]? = some u ∧ u'.cont = u.cont ∧ u'.tight ∧ s.us.length < 10000 ∧ s' = { s with us := s.us ++ [u'], twice := s.twice + 1 })
def CopyR (r : RefS) (i : Int) (r' : RefS) : Prop := (copyC r.us.length ≠ 0 ∧ r' = r) ∨ (copyC r.us.length = 0 ∧ ∃ u u' : Let, r.us[at' i r.us.length]? = some u ∧ u'.cont = u.cont ∧ r' = { r with us := r.us ++ [u'], twice := r.twice + 1 })
theorem at_eq {i : Int} {n k : Nat} (h : i % (n : Int) = (k : Int)) : k = at' i n := by unfold at'; rw [h]; rfl
theorem erase_map {us vs : List Let} {k : Nat} (h : us.map Let.cont = vs.map Let.cont) : (us.eraseIdx k).map Let.cont = (vs.eraseIdx k).map Let.cont := by
  rw [List.eraseIdx_eq_take_drop_succ, List.eraseIdx_eq_take_drop_succ, List.map_append, List.map_append, List.map_take, List.map_take, List.map_drop, List.map_drop, h]
section
variable {s s' : NetS} {r r' : RefS} {i : Int} {b : Bool} {m : Int}
theorem SR.drop (h : SR s r) : SR (dropS s i) (dropR r i) := by
  unfold dropS dropR
  rw [← h.len]
  split
  · exact h
  · exact ⟨erase_map h.k, fun u hu => h.l u (List.mem_of_mem_eraseIdx hu), fun u hu => h.t u (List.mem_of_mem_eraseIdx hu), fun u hu => h.q u (List.mem_of_mem_eraseIdx hu), h.c, h.o, h.z, h.c1, h.c2, by simp [h.c3], h.c4⟩
theorem SB.drop (h : SB s m) : SB (dropS s i) (m + 1) := by
  obtain ⟨h1, h2, h3, h4, h5⟩ := h
  unfold dropS
  split
  · exact ⟨h1, by omega, by omega, by omega, by omega⟩
  · exact ⟨Nat.le_trans (List.length_eraseIdx_le _ _) h1, by simp only; omega, by simp only; omega, by simp only; omega, by simp only; omega⟩
theorem SR.cut (h : SR s r) : SR (cutS s i b) (cutRS r i b) := by
  unfold cutS cutRS
  split
  · rename_i hi
    refine ⟨h.k, h.l, h.t, h.q, ?_, by simp [h.o], ?_, h.c1, h.c2, h.c3, h.c4⟩
    · simp only
      rw [h.c]
      exact cut_set h.z h.o hi.1 hi.2 b
    · simp only
      rw [List.getD_eq_getElem?_getD, List.getElem?_set_ne (by omega), ← List.getD_eq_getElem?_getD]
      exact h.z
  · exact h
theorem SB.cut (h : SB s m) : SB (cutS s i b) (m + 1) := by
  obtain ⟨h1, h2, h3, h4, h5⟩ := h
  unfold cutS
  split
  · exact ⟨h1, by simp only; omega, by simp only; omega, by simp only; omega, by simp only; omega⟩
  · exact ⟨h1, by omega, by omega, by omega, by omega⟩
theorem CopyS.light (h : CopyS s i s') (hl : ∀ u ∈ s.us, u.light) : ∀ u ∈ s'.us, u.light := by
  rcases h with ⟨_, rfl⟩ | ⟨_, u, u', hu, hc, _, _, rfl⟩
  · exact hl
  · intro x hx
    rcases List.mem_append.1 hx with hx | hx
    · exact hl x hx
    · simp at hx
      subst hx
      exact light_cont hc (hl u (List.mem_of_getElem? hu))
theorem SR.copy (h : SR s r) (h1 : CopyS s i s') (h2 : CopyR r i r') : SR s' r' := by
  unfold CopyR at h2
  rw [← h.len] at h2
  rcases h1 with ⟨h0, rfl⟩ | ⟨h0, u, u', hu, hc, ht, _, rfl⟩
  · rcases h2 with ⟨_, rfl⟩ | ⟨h9, _⟩
    · exact h
    · exact absurd h9 h0
  · rcases h2 with ⟨h9, _⟩ | ⟨_, v, v', hv, hd, rfl⟩
    · exact absurd h0 h9
    · have huv : u.cont = v.cont := by
        have h3 := congrArg (fun l => l[at' i s.us.length]?) h.k
        simpa [hu, hv] using h3
      have hmem := List.mem_of_getElem? hu
      refine ⟨?_, fun x hx => ?_, fun x hx => ?_, fun x hx => ?_, h.c, h.o, h.z, h.c1, h.c2, h.c3, by simp [h.c4]⟩
      · simp only [List.map_append, List.map_cons, List.map_nil, h.k, hc, hd, huv]
      · rcases List.mem_append.1 hx with hx | hx
        · exact h.l x hx
        · simp at hx
          subst hx
          exact light_cont hc (h.l u hmem)
      · rcases List.mem_append.1 hx with hx | hx
        · exact h.t x hx
        · simp at hx
          subst hx
          exact ht
      · rcases List.mem_append.1 hx with hx | hx
        · exact h.q x hx
        · simp at hx
          subst hx
          rw [right_cont hc]
          exact h.q u hmem
theorem CopyS.sb (h : CopyS s i s') (hb : SB s m) : SB s' (m + 1) := by
  obtain ⟨h1, h2, h3, h4, h5⟩ := hb
  rcases h with ⟨_, rfl⟩ | ⟨_, u, u', _, _, _, hl, rfl⟩
  · exact ⟨h1, by omega, by omega, by omega, by omega⟩
  · exact ⟨by simp only [List.length_append, List.length_cons, List.length_nil]; omega, by simp only; omega, by simp only; omega, by simp only; omega, by simp only; omega⟩
end
section
variable {X : Nat → Prop} {B nb bb rb : Nat} {s : NetS} {r : RefS} {w : World}
theorem jdrop_n (hJ : JAt X B nb bb rb s r w) (hX : ∀ i, X i → i < w.heap.size) (hf : s.fits) (hB : 0 < B) (hg : ErrT w) (i : Int) :
    Calls Tryz.prog 20 #[.pointer (some ⟨nb, 0, none⟩), .int .i64 i] w fun e w' => e = .returned (.int .i64 (dropC s.us.length)) ∧ JAt X B nb bb rb (dropS s i) r w' ∧ Fr (JF X B) w w' := by
  have hJ0 := hJ
  obtain ⟨A, c, Ar, cr, Ac, cc, h1, h2, h3, h4, h5⟩ := hJ
  refine (drop_any w B nb bb A c s h1 hf hB hg i).mono ?_
  rintro ev w' (⟨hu, rfl, hE⟩ | ⟨k, u, hu, hk, rfl, hst⟩)
  · have hl : s.us.length = 0 := by rw [hu]; rfl
    refine ⟨by rw [dropC, if_pos hl], ?_, Fr.ofExt _ hE⟩
    rw [dropS, if_pos hl]
    exact hJ0.ext hE
  · have hl : ¬ s.us.length = 0 := by have := (List.getElem?_eq_some_iff.1 hu).1; omega
    obtain ⟨h6, h7⟩ := jstep_n h1 h2 h3 h4 h5 hX hst
    refine ⟨by rw [dropC, if_neg hl], ?_, h7⟩
    rw [dropS, if_neg hl, ← at_eq hk]
    exact h6
theorem jdrop_r (hJ : JAt X B nb bb rb s r w) (hX : ∀ i, X i → i < w.heap.size) (hf : r.fits) (hl : ∀ u ∈ s.us, u.light) (i : Int) :
    Calls Tryz.prog 30 #[.pointer (some ⟨rb, 0, none⟩), .int .i64 i] w fun e w' => e = .returned (.int .i64 (dropC r.us.length)) ∧ JAt X B nb bb rb s (dropR r i) w' ∧ Fr (JF X B) w w' := by
  have hJ0 := hJ
  obtain ⟨A, c, Ar, cr, Ac, cc, h1, h2, h3, h4, h5⟩ := hJ
  refine (drop_ref w B rb Ar Ac cr cc r h2 hf i).mono ?_
  rintro ev w' (⟨hu, rfl, hE⟩ | ⟨k, u, hu, hk, rfl, hst⟩)
  · refine ⟨by rw [dropC, if_pos hu], ?_, Fr.ofExt _ hE⟩
    rw [dropR, if_pos hu]
    exact hJ0.ext hE
  · have hl2 : ¬ r.us.length = 0 := by have := (List.getElem?_eq_some_iff.1 hu).1; omega
    obtain ⟨h6, h7⟩ := jstep_r h1 h2 h3 h4 h5 hX hl hst
    refine ⟨by rw [dropC, if_neg hl2], ?_, h7⟩
    rw [dropR, if_neg hl2, ← at_eq hk]
    exact h6
theorem jcut_n (hJ : JAt X B nb bb rb s r w) (hX : ∀ i, X i → i < w.heap.size) (i : Int) (b : Bool) :
    Calls Tryz.prog 21 #[.pointer (some ⟨nb, 0, none⟩), .int .i64 i, .bool b] w fun e w' => e = .returned (.int .i64 (cutC i)) ∧ JAt X B nb bb rb (cutS s i b) r w' ∧ Fr (JF X B) w w' := by
  obtain ⟨A, c, Ar, cr, Ac, cc, h1, h2, h3, h4, h5⟩ := hJ
  refine (cut_any w B nb bb A c s h1 i b).mono ?_
  rintro ev w' ⟨n, off, rfl, ha, hb, hst⟩
  by_cases hi : 1 ≤ i ∧ i ≤ 7
  · obtain ⟨rfl, rfl⟩ := ha hi
    obtain ⟨h6, h7⟩ := jstep_n h1 h2 h3 h4 h5 hX hst
    exact ⟨by rw [cutC, if_pos hi], by rw [cutS, if_pos hi]; exact h6, h7⟩
  · obtain ⟨rfl, rfl⟩ := hb hi
    obtain ⟨h6, h7⟩ := jstep_n h1 h2 h3 h4 h5 hX hst
    exact ⟨by rw [cutC, if_neg hi], by rw [cutS, if_neg hi]; exact h6, h7⟩
theorem jcut_r (hJ : JAt X B nb bb rb s r w) (hX : ∀ i, X i → i < w.heap.size) (hf : r.fits) (hB : B ≤ w.heap.size) (hl : ∀ u ∈ s.us, u.light) (i : Int) (b : Bool) :
    Calls Tryz.prog 31 #[.pointer (some ⟨rb, 0, none⟩), .int .i64 i, .bool b] w fun e w' => e = .returned (.int .i64 (cutC i)) ∧ JAt X B nb bb rb s (cutRS r i b) w' ∧ Fr (JF X B) w w' := by
  have hJ0 := hJ
  obtain ⟨A, c, Ar, cr, Ac, cc, h1, h2, h3, h4, h5⟩ := hJ
  refine (cutm_ref w B rb Ar Ac cr cc r h2 hf.f6 hB i b).mono ?_
  rintro ev w' (⟨hi, rfl, hE⟩ | ⟨hi, rfl, hst⟩)
  · exact ⟨by rw [cutC, if_neg hi], by rw [cutRS, if_neg hi]; exact hJ0.ext hE, Fr.ofExt _ hE⟩
  · obtain ⟨h6, h7⟩ := jstep_r h1 h2 h3 h4 h5 hX hl hst
    exact ⟨by rw [cutC, if_pos hi], by rw [cutRS, if_pos hi]; exact h6, h7⟩
theorem jcopy_n (hJ : JAt X B nb bb rb s r w) (hX : ∀ i, X i → i < w.heap.size) (hf : s.fits) (hB : 0 < B) (hBw : B ≤ w.heap.size) (hg : ErrT w) (i : Int) :
    Calls Tryz.prog 17 #[.pointer (some ⟨nb, 0, none⟩), .int .i64 i] w fun e w' => e = .returned (.int .i64 (copyC s.us.length)) ∧ (∃ s', CopyS s i s' ∧ JAt X B nb bb rb s' r w') ∧ Fr (JF X B) w w' := by
  have hJ0 := hJ
  obtain ⟨A, c, Ar, cr, Ac, cc, h1, h2, h3, h4, h5⟩ := hJ
  refine (copy_any w B nb bb A c s h1 hf hB hBw hg i).mono ?_
  rintro ev w' (⟨hu, rfl, hE⟩ | ⟨hu, rfl, hE⟩ | ⟨k, u, u', hlt, hu, hk, huc, huf, rfl, hst⟩)
  · have hl : s.us.length = 0 := by rw [hu]; rfl
    have hc : copyC s.us.length = 7 := by rw [copyC, if_pos hl]
    exact ⟨by rw [hc], ⟨s, .inl ⟨by rw [hc]; decide, rfl⟩, hJ0.ext hE⟩, Fr.ofExt _ hE⟩
  · have hc : copyC s.us.length = 3 := by rw [copyC, if_neg (by omega), if_pos hu]
    exact ⟨by rw [hc], ⟨s, .inl ⟨by rw [hc]; decide, rfl⟩, hJ0.ext hE⟩, Fr.ofExt _ hE⟩
  · have hl : ¬ s.us.length = 0 := by have := (List.getElem?_eq_some_iff.1 hu).1; omega
    have hc : copyC s.us.length = 0 := by rw [copyC, if_neg hl, if_neg (by omega)]
    obtain ⟨h6, h7⟩ := jstep_n h1 h2 h3 h4 h5 hX hst
    exact ⟨by rw [hc], ⟨_, .inr ⟨hc, u, u', by rw [← at_eq hk]; exact hu, huc, huf.2, hlt, rfl⟩, h6⟩, h7⟩
theorem jcopy_r (hJ : JAt X B nb bb rb s r w) (hX : ∀ i, X i → i < w.heap.size) (hf : r.fits) (hBw : B ≤ w.heap.size) (hl : ∀ u ∈ s.us, u.light) (i : Int) :
    Calls Tryz.prog 29 #[.pointer (some ⟨rb, 0, none⟩), .int .i64 i] w fun e w' => e = .returned (.int .i64 (copyC r.us.length)) ∧ (∃ r', CopyR r i r' ∧ JAt X B nb bb rb s r' w') ∧ Fr (JF X B) w w' := by
  have hJ0 := hJ
  obtain ⟨A, c, Ar, cr, Ac, cc, h1, h2, h3, h4, h5⟩ := hJ
  refine (copy_ref w B rb Ar Ac cr cc r h2 hf hBw i).mono ?_
  rintro ev w' (⟨hu, rfl, hE⟩ | ⟨hu, rfl, hE⟩ | ⟨k, u, u', hlt, hu, hk, huc, rfl, hst⟩)
  · have hc : copyC r.us.length = 7 := by rw [copyC, if_pos hu]
    exact ⟨by rw [hc], ⟨r, .inl ⟨by rw [hc]; decide, rfl⟩, hJ0.ext hE⟩, Fr.ofExt _ hE⟩
  · have hc : copyC r.us.length = 3 := by rw [copyC, if_neg (by omega), if_pos hu]
    exact ⟨by rw [hc], ⟨r, .inl ⟨by rw [hc]; decide, rfl⟩, hJ0.ext hE⟩, Fr.ofExt _ hE⟩
  · have hl2 : ¬ r.us.length = 0 := by have := (List.getElem?_eq_some_iff.1 hu).1; omega
    have hc : copyC r.us.length = 0 := by rw [copyC, if_neg hl2, if_neg (by omega)]
    obtain ⟨h6, h7⟩ := jstep_r h1 h2 h3 h4 h5 hX hl hst
    exact ⟨by rw [hc], ⟨_, .inr ⟨hc, u, u', by rw [← at_eq hk]; exact hu, huc, rfl⟩, h6⟩, h7⟩
end
end Go.Proofs.YtjnllilmimngoaaGreatDoor
namespace Go.Proofs.YtjnllilmimngoaaGreatDoor
open Go.RowKit

theorem all_right {ls ms : List Let} (h : ms.map Let.cont = ls.map Let.cont) : ms.all rightL = ls.all rightL := by
  induction ms generalizing ls with
  | nil => cases ls with
    | nil => rfl
    | cons a l => simp at h
  | cons b m ih => cases ls with
    | nil => simp at h
    | cons a l =>
      simp only [List.map_cons, List.cons.injEq] at h
      simp only [List.all_cons, right_cont h.1, ih h.2]
def sendC (n : Nat) (ls : List Let) : Int := if ls.all rightL = true then (if 10000 < n + ls.length then 3 else 0) else 2
def SendS (s : NetS) (ls : List Let) (s' : NetS) : Prop := (sendC s.us.length ls ≠ 0 ∧ s' = s) ∨ (sendC s.us.length ls = 0 ∧ ls.all rightL = true ∧ s.us.length + ls.length ≤ 10000 ∧ ∃ ms : List Let, ms.map Let.cont = ls.map Let.cont ∧ (∀ m ∈ ms, m.tight) ∧ s' = { s with us := s.us ++ ms, sent := s.sent + ls.length })
def SendR (r : RefS) (ls : List Let) (r' : RefS) : Prop := (sendC r.us.length ls ≠ 0 ∧ r' = r) ∨ (sendC r.us.length ls = 0 ∧ ∃ ms : List Let, ms.map Let.cont = ls.map Let.cont ∧ r' = { r with us := r.us ++ ms, sent := r.sent + ls.length })
def cutB (s : NetS) (u : Let) : Bool := cut s.off u.frm || cut s.off u.too
def TakeS (s : NetS) (i : Int) (l : Let) (c : Int) (s' : NetS) : Prop :=
  (s.us.length = 0 ∧ l = voteZ ∧ c = 7 ∧ s' = s) ∨ ∃ u, s.us[at' i s.us.length]? = some u ∧
    ((cutB s u = true ∧ l = voteZ ∧ c = 11 ∧ s' = { s with us := s.us.eraseIdx (at' i s.us.length), lost := s.lost + 1 }) ∨
     (cutB s u = false ∧ l = u ∧ c = 0 ∧ s' = { s with us := s.us.eraseIdx (at' i s.us.length), gone := s.gone + 1 }))
def TakeR (r : RefS) (i : Int) (l : Let) (c : Int) (r' : RefS) : Prop :=
  (r.us.length = 0 ∧ l = voteZ ∧ c = 7 ∧ r' = r) ∨ ∃ u, r.us[at' i r.us.length]? = some u ∧
    ((cutR r.cuts u = true ∧ l = voteZ ∧ c = 11 ∧ r' = { r with us := r.us.eraseIdx (at' i r.us.length), lost := r.lost + 1 }) ∨
     (cutR r.cuts u = false ∧ l = u ∧ c = 0 ∧ r' = { r with us := r.us.eraseIdx (at' i r.us.length), gone := r.gone + 1 }))
theorem voteZ_light : voteZ.light := ⟨rfl, rfl, rfl, rfl, rfl⟩
theorem voteZ_tight : voteZ.tight := ⟨fun _ => rfl, fun _ => rfl, fun _ => rfl, fun _ => rfl, fun _ => rfl⟩
theorem frm_cont {u v : Let} (h : u.cont = v.cont) : u.frm = v.frm ∧ u.too = v.too := by
  obtain ⟨h1, _⟩ := Let.cont_fields h
  exact ⟨by rw [h1], by rw [h1]⟩
section
variable {s s' : NetS} {r r' : RefS} {i : Int} {m : Int} {ls ls2 : List Let}
theorem sendC_eq (h : ls2.map Let.cont = ls.map Let.cont) {n k : Nat} (hn : n = k) : sendC n ls = sendC k ls2 := by
  have hl : ls2.length = ls.length := by simpa using congrArg List.length h
  unfold sendC
  rw [all_right h, hl, hn]
theorem SR.send (h : SR s r) (hl : ∀ l ∈ ls, l.light) (hc : ls2.map Let.cont = ls.map Let.cont) (h1 : SendS s ls s') (h2 : SendR r ls2 r') : SR s' r' := by
  unfold SendR at h2
  rw [← sendC_eq hc h.len] at h2
  have hlen : ls2.length = ls.length := by simpa using congrArg List.length hc
  rcases h1 with ⟨h0, rfl⟩ | ⟨h0, hall, _, ms, hm, ht, rfl⟩
  · rcases h2 with ⟨_, rfl⟩ | ⟨h9, _⟩
    · exact h
    · exact absurd h9 h0
  · rcases h2 with ⟨h9, _⟩ | ⟨_, ms2, hm2, rfl⟩
    · exact absurd h0 h9
    · have hmr : ms.all rightL = true := (all_right hm).trans hall
      refine ⟨?_, fun x hx => ?_, fun x hx => ?_, fun x hx => ?_, h.c, h.o, h.z, by simp only; rw [h.c1, hlen], h.c2, h.c3, h.c4⟩
      · simp only [List.map_append, h.k, hm, hm2, hc]
      · rcases List.mem_append.1 hx with hx | hx
        · exact h.l x hx
        · exact light_all hm hl x hx
      · rcases List.mem_append.1 hx with hx | hx
        · exact h.t x hx
        · exact ht x hx
      · rcases List.mem_append.1 hx with hx | hx
        · exact h.q x hx
        · exact List.all_eq_true.1 hmr x hx
theorem SendS.light (h : SendS s ls s') (hl : ∀ l ∈ ls, l.light) (hu : ∀ u ∈ s.us, u.light) : ∀ u ∈ s'.us, u.light := by
  rcases h with ⟨_, rfl⟩ | ⟨_, _, _, ms, hm, _, rfl⟩
  · exact hu
  · intro x hx
    rcases List.mem_append.1 hx with hx | hx
    · exact hu x hx
    · exact light_all hm hl x hx
theorem SendS.sb (h : SendS s ls s') (hb : SB s m) : SB s' (m + ls.length) := by
  obtain ⟨h1, h2, h3, h4, h5⟩ := hb
  rcases h with ⟨_, rfl⟩ | ⟨_, _, hle, ms, hm, _, rfl⟩
  · exact ⟨h1, by omega, by omega, by omega, by omega⟩
  · have hlm : ms.length = ls.length := by simpa using congrArg List.length hm
    exact ⟨by simp only [List.length_append]; omega, by simp only; omega, by simp only; omega, by simp only; omega, by simp only; omega⟩
theorem TakeS.light {l : Let} {c : Int} (h : TakeS s i l c s') (hu : ∀ u ∈ s.us, u.light) : ∀ u ∈ s'.us, u.light := by
  rcases h with ⟨_, _, _, rfl⟩ | ⟨u, _, ⟨_, _, _, rfl⟩ | ⟨_, _, _, rfl⟩⟩
  · exact hu
  · exact fun x hx => hu x (List.mem_of_mem_eraseIdx hx)
  · exact fun x hx => hu x (List.mem_of_mem_eraseIdx hx)
theorem TakeS.sb {l : Let} {c : Int} (h : TakeS s i l c s') (hb : SB s m) : SB s' (m + 1) := by
  obtain ⟨h1, h2, h3, h4, h5⟩ := hb
  rcases h with ⟨_, _, _, rfl⟩ | ⟨u, _, ⟨_, _, _, rfl⟩ | ⟨_, _, _, rfl⟩⟩
  · exact ⟨h1, by omega, by omega, by omega, by omega⟩
  · exact ⟨Nat.le_trans (List.length_eraseIdx_le _ _) h1, by simp only; omega, by simp only; omega, by simp only; omega, by simp only; omega⟩
  · exact ⟨Nat.le_trans (List.length_eraseIdx_le _ _) h1, by simp only; omega, by simp only; omega, by simp only; omega, by simp only; omega⟩
theorem SR.cutEq (h : SR s r) {u v : Let} (hu : u ∈ s.us) (hc : u.cont = v.cont) : cutR r.cuts v = cutB s u := by
  obtain ⟨⟨a1, a2⟩, b1, b2⟩ := right_ends (h.q u hu)
  obtain ⟨hf, ht⟩ := frm_cont hc
  unfold cutR cutB
  rw [h.c, cut_mem (by omega) a2, cut_mem (by omega) b2, hf, ht]
theorem SR.take (h : SR s r) {l l2 : Let} {c c2 : Int} (h1 : TakeS s i l c s') (h2 : TakeR r i l2 c2 r') : l.cont = l2.cont ∧ c = c2 ∧ l.light ∧ l.tight ∧ SR s' r' := by
  unfold TakeR at h2
  rw [← h.len] at h2
  rcases h1 with ⟨h0, rfl, rfl, rfl⟩ | ⟨u, hu, h1⟩
  · rcases h2 with ⟨_, rfl, rfl, rfl⟩ | ⟨v, hv, _⟩
    · exact ⟨rfl, rfl, voteZ_light, voteZ_tight, h⟩
    · have := (List.getElem?_eq_some_iff.1 hv).1
      rw [← h.len] at this
      omega
  · rcases h2 with ⟨h0, _⟩ | ⟨v, hv, h2⟩
    · have := (List.getElem?_eq_some_iff.1 hu).1
      omega
    · have huv : u.cont = v.cont := by
        have h3 := congrArg (fun l => l[at' i s.us.length]?) h.k
        simpa [hu, hv] using h3
      have hmem := List.mem_of_getElem? hu
      rw [h.cutEq hmem huv] at h2
      have hE : ∀ a b : Int, SR { s with us := s.us.eraseIdx (at' i s.us.length), gone := a, lost := b } { r with us := r.us.eraseIdx (at' i s.us.length), gone := a, lost := b } := fun a b => ⟨erase_map h.k, fun u hu => h.l u (List.mem_of_mem_eraseIdx hu), fun u hu => h.t u (List.mem_of_mem_eraseIdx hu), fun u hu => h.q u (List.mem_of_mem_eraseIdx hu), h.c, h.o, h.z, h.c1, rfl, rfl, h.c4⟩
      rcases h1 with ⟨hb, rfl, rfl, rfl⟩ | ⟨hb, rfl, rfl, rfl⟩
      · rcases h2 with ⟨_, rfl, rfl, rfl⟩ | ⟨h9, _⟩
        · refine ⟨rfl, rfl, voteZ_light, voteZ_tight, ?_⟩
          simpa only [h.c2, h.c3] using hE s.gone (s.lost + 1)
        · rw [hb] at h9; cases h9
      · rcases h2 with ⟨h9, _⟩ | ⟨_, rfl, rfl, rfl⟩
        · rw [hb] at h9; cases h9
        · refine ⟨huv, rfl, h.l _ hmem, h.t _ hmem, ?_⟩
          simpa only [h.c2, h.c3] using hE (s.gone + 1) s.lost
end
section
variable {X : Nat → Prop} {B nb bb rb : Nat} {s : NetS} {r : RefS} {w : World}
theorem jsend_n (hJ : JAt X B nb bb rb s r w) (hX : ∀ i, X i → i < w.heap.size) (hf : s.fits) (hB : 0 < B) (hBw : B ≤ w.heap.size) (hg : ErrT w) (D : Option Addr) (d : Nat) (ls : List Let) (hL : LetsIn w D ls) (hl : ∀ l ∈ ls, l.light) (hn : ls.length ≤ 10000) (hD : ∀ i, blk D i → i < B ∨ X i) :
    Calls Tryz.prog 16 #[.pointer (some ⟨nb, 0, none⟩), .slice D ls.length d] w fun e w' => e = .returned (.int .i64 (sendC s.us.length ls)) ∧ (∃ s', SendS s ls s' ∧ JAt X B nb bb rb s' r w') ∧ Fr (JF X B) w w' := by
  have hJ0 := hJ
  obtain ⟨A, c, Ar, cr, Ac, cc, h1, h2, h3, h4, h5⟩ := hJ
  refine (send_any w B nb bb A c s h1 hf hB hBw hg D d ls hL hn (fun _ ad had hm => ?_) (fun l hl' => (hl l hl').held _ w)).mono ?_
  · subst had
    rcases hD _ rfl with h | h
    · have := (h1.mut_lt hm).1
      omega
    · exact h4 _ hm h
  · rintro ev w' (⟨ha, rfl, hE⟩ | ⟨ha, hlt, rfl, hE⟩ | ⟨ha, hle, rfl, ms, hm, hfr, hst⟩)
    · have hc : sendC s.us.length ls = 2 := by rw [sendC, if_neg (by rw [ha]; decide)]
      exact ⟨by rw [hc], ⟨s, .inl ⟨by rw [hc]; decide, rfl⟩, hJ0.ext hE⟩, Fr.ofExt _ hE⟩
    · have hc : sendC s.us.length ls = 3 := by rw [sendC, if_pos ha, if_pos hlt]
      exact ⟨by rw [hc], ⟨s, .inl ⟨by rw [hc]; decide, rfl⟩, hJ0.ext hE⟩, Fr.ofExt _ hE⟩
    · have hc : sendC s.us.length ls = 0 := by rw [sendC, if_pos ha, if_neg (by omega)]
      obtain ⟨h6, h7⟩ := jstep_n h1 h2 h3 h4 h5 hX hst
      exact ⟨by rw [hc], ⟨_, .inr ⟨hc, ha, hle, ms, hm, fun m hm' => (hfr m hm').2, rfl⟩, h6⟩, h7⟩
theorem jsend_r (hJ : JAt X B nb bb rb s r w) (hX : ∀ i, X i → i < w.heap.size) (hf : r.fits) (hBw : B ≤ w.heap.size) (hu : ∀ u ∈ s.us, u.light) (D : Option Addr) (d : Nat) (ls : List Let) (hL : LetsIn w D ls) (hl : ∀ l ∈ ls, l.light) (hn : ls.length ≤ 10000) (hD : ∀ i, blk D i → i < B ∨ X i) :
    Calls Tryz.prog 33 #[.pointer (some ⟨rb, 0, none⟩), .slice D ls.length d] w fun e w' => e = .returned (.int .i64 (sendC r.us.length ls)) ∧ (∃ r', SendR r ls r' ∧ JAt X B nb bb rb s r' w') ∧ Fr (JF X B) w w' := by
  have hJ0 := hJ
  obtain ⟨A, c, Ar, cr, Ac, cc, h1, h2, h3, h4, h5⟩ := hJ
  refine (send_ref w B rb Ar Ac cr cc r h2 hf hBw D d ls hL hl hn (fun _ ad had hm => ?_)).mono ?_
  · subst had
    rcases hD _ rfl with h | h
    · have := (h2.mut_lt hm).1
      omega
    · exact h5 _ hm h
  · rintro ev w' (⟨ha, rfl, hE⟩ | ⟨ha, hlt, rfl, hE⟩ | ⟨ha, hle, rfl, ms, hm, hst⟩)
    · have hc : sendC r.us.length ls = 2 := by rw [sendC, if_neg (by rw [ha]; decide)]
      exact ⟨by rw [hc], ⟨r, .inl ⟨by rw [hc]; decide, rfl⟩, hJ0.ext hE⟩, Fr.ofExt _ hE⟩
    · have hc : sendC r.us.length ls = 3 := by rw [sendC, if_pos ha, if_pos hlt]
      exact ⟨by rw [hc], ⟨r, .inl ⟨by rw [hc]; decide, rfl⟩, hJ0.ext hE⟩, Fr.ofExt _ hE⟩
    · have hc : sendC r.us.length ls = 0 := by rw [sendC, if_pos ha, if_neg (by omega)]
      obtain ⟨h6, h7⟩ := jstep_r h1 h2 h3 h4 h5 hX hu hst
      exact ⟨by rw [hc], ⟨_, .inr ⟨hc, ms, hm, rfl⟩, h6⟩, h7⟩
theorem jtake_n (hJ : JAt X B nb bb rb s r w) (hX : ∀ i, X i → i < w.heap.size) (hf : s.fits) (hB : 0 < B) (hg : ErrT w) (i : Int) :
    Calls Tryz.prog 18 #[.pointer (some ⟨nb, 0, none⟩), .int .i64 i] w fun e w' => ∃ l c s', e = .returned (.tuple #[l.v, .int .i64 c]) ∧ TakeS s i l c s' ∧ JAt X B nb bb rb s' r w' ∧ Fr (JF X B) w w' := by
  have hJ0 := hJ
  obtain ⟨A, c, Ar, cr, Ac, cc, h1, h2, h3, h4, h5⟩ := hJ
  refine (take_any w B nb bb A c s h1 hf hB hg i).mono ?_
  rintro ev w' (⟨hu, rfl, hE⟩ | ⟨k, u, hu, hk, ⟨hb, rfl, hst⟩ | ⟨hb, rfl, hst⟩⟩)
  · exact ⟨voteZ, 7, s, rfl, .inl ⟨by rw [hu]; rfl, rfl, rfl, rfl⟩, hJ0.ext hE, Fr.ofExt _ hE⟩
  · obtain ⟨h6, h7⟩ := jstep_n h1 h2 h3 h4 h5 hX hst
    rw [at_eq hk] at hu h6
    exact ⟨voteZ, 11, _, rfl, .inr ⟨u, hu, .inl ⟨hb, rfl, rfl, rfl⟩⟩, h6, h7⟩
  · obtain ⟨h6, h7⟩ := jstep_n h1 h2 h3 h4 h5 hX hst
    rw [at_eq hk] at hu h6
    exact ⟨u, 0, _, rfl, .inr ⟨u, hu, .inr ⟨hb, rfl, rfl, rfl⟩⟩, h6, h7⟩
theorem jtake_r (hJ : JAt X B nb bb rb s r w) (hX : ∀ i, X i → i < w.heap.size) (hf : r.fits) (hu : ∀ u ∈ s.us, u.light) (i : Int) :
    Calls Tryz.prog 25 #[.pointer (some ⟨rb, 0, none⟩), .int .i64 i] w fun e w' => ∃ l c r', e = .returned (.tuple #[l.v, .int .i64 c]) ∧ TakeR r i l c r' ∧ JAt X B nb bb rb s r' w' ∧ Fr (JF X B) w w' := by
  have hJ0 := hJ
  obtain ⟨A, c, Ar, cr, Ac, cc, h1, h2, h3, h4, h5⟩ := hJ
  refine (take_ref w B rb Ar Ac cr cc r h2 hf i).mono ?_
  rintro ev w' (⟨h0, rfl, hE⟩ | ⟨k, u, hk1, hk, ⟨hb, rfl, hst⟩ | ⟨hb, rfl, hst⟩⟩)
  · exact ⟨voteZ, 7, r, rfl, .inl ⟨h0, rfl, rfl, rfl⟩, hJ0.ext hE, Fr.ofExt _ hE⟩
  · obtain ⟨h6, h7⟩ := jstep_r h1 h2 h3 h4 h5 hX hu hst
    rw [at_eq hk] at hk1 h6
    exact ⟨voteZ, 11, _, rfl, .inr ⟨u, hk1, .inl ⟨hb, rfl, rfl, rfl⟩⟩, h6, h7⟩
  · obtain ⟨h6, h7⟩ := jstep_r h1 h2 h3 h4 h5 hX hu hst
    rw [at_eq hk] at hk1 h6
    exact ⟨u, 0, _, rfl, .inr ⟨u, hk1, .inr ⟨hb, rfl, rfl, rfl⟩⟩, h6, h7⟩
end
end Go.Proofs.YtjnllilmimngoaaGreatDoor
namespace Go.Proofs.YtjnllilmimngoaaGreatDoor
open Go.RowKit

theorem pick_any (x n : Int) (w : World) (hn : 1 ≤ n) (hn2 : n ≤ 4611686018427387904) :
    Calls Tryz.prog 24 #[.int .i64 x, .int .i64 n] w fun e w' => e = .returned (.int .i64 (x % n)) ∧ Ext w w' := by
  have hne : (n == 0) = false := by simp; omega
  have h1 := Int.tmod_lt_of_pos x (show 0 < n by omega)
  have h2 := Int.lt_tmod_of_pos x (show 0 < n by omega)
  have h3 := tmod_neg x n hn
  have h4 := tmod_pos x n hn
  by_cases hlt : x.tmod n < 0
  · have h5 := Lib.hid (h3 hlt)
    clear h3 h4
    go_enter Tryz.func24, Tryz.ntmps24
    go_wp2
    go_ret
    exact ⟨by rw [← h5.out]; rfl, Ext.refl _⟩
  · have h5 := Lib.hid (h4 hlt)
    clear h3 h4
    go_enter Tryz.func24, Tryz.ntmps24
    go_wp2
    go_ret
    exact ⟨by rw [← h5.out]; rfl, Ext.refl _⟩
def No : Nat → Prop := fun _ => False
def deedV (what i : Int) (b : Bool) (D : Option Addr) (n d : Nat) : Value := .agg #[.int .i64 what, .int .i64 i, .bool b, .slice D n d]
/-- What does tells and leaves. -/
def DoesP (B nb bb rb : Nat) (m : Int) (w : World) (e : Ending) (w' : World) : Prop :=
  e = .returned (.bool true) ∧ (∃ s' r', JAt No B nb bb rb s' r' w' ∧ SR s' r' ∧ SB s' m) ∧ Fr (fun i => B ≤ i) w w'
section
variable {B nb bb rb : Nat} {s : NetS} {r : RefS} {w : World}
theorem JAt.boxed (hJ : JAt No B nb bb rb s r w) {o : Obj} {w1 : World} (hE : Ext (w.alloc o) w1) : JAt (isB w.heap.size) B nb bb rb s r w1 := hJ.grow (((Ext.refl w).alloc o).trans hE) (fun i hi => .inr (by unfold isB at hi; omega))
theorem does_end {X : Nat → Prop} {m m' : Int} {w1 w2 : World} {o : Obj} {s' : NetS} {r' : RefS} (hJ : JAt X B nb bb rb s' r' w2) (hs : SR s' r') (hb : SB s' m) (hm : m ≤ m') (hE : Ext (w.alloc o) w1) (hF : Fr (JF X B) w1 w2) : DoesP B nb bb rb m' w (.returned (.bool true)) w2 :=
  ⟨rfl, ⟨s', r', hJ.sub (fun _ _ h => h.elim), hs, hb.up hm⟩, (Fr.ofExt _ (((Ext.refl w).alloc o).trans hE)).trans hF (fun _ _ t => t.1)⟩
set_option maxRecDepth 100000 in
set_option maxHeartbeats 4000000 in
theorem does_drop (m : Int) (hJ : JAt No B nb bb rb s r w) (hs : SR s r) (hb : SB s m) (hm : m ≤ 900000) (hB : 0 < B) (hg : ErrT w) (what i : Int) (b : Bool) (D : Option Addr) (n d : Nat) (hc : what % 6 = 4) :
    Calls Tryz.prog 12 #[.pointer (some ⟨nb, 0, none⟩), .pointer (some ⟨rb, 0, none⟩), deedV what i b D n d] w (DoesP B nb bb rb (m + 1) w) := by
  have HP := Lib.hid (fun w1 => pick_any what 6 w1 (by omega) (by omega))
  have HJ := Lib.hid (fun o w1 (h : Ext (w.alloc o) w1) => hJ.boxed h)
  have HS := Lib.hid hs
  have HB := Lib.hid hb
  have HG := Lib.hid hg
  rw [hc] at HP
  clear hJ hs hb hg
  unfold deedV
  go_enter Tryz.func12, Tryz.ntmps12
  go_wp2_with fail
  refine (HP.out _).mono ?_
  rintro ev w1 ⟨rfl, hE1⟩
  have HX := Lib.hid (hE1.blk (heap_alloc_new w _))
  have HE1 := Lib.hid hE1
  clear hE1
  go_wp2_with fail
  have hxw := heap_lt HX.out
  have hX : ∀ j, isB w.heap.size j → j < w1.heap.size := fun j hj => by unfold isB at hj; omega
  have hff := HB.out.fits (by omega)
  have hHX : ∀ wx, Fr (JF (isB w.heap.size) B) w1 wx → ∀ k, wx.cell? ⟨w.heap.size, k, none⟩ = _ := fun wx h k => cell_of_heap ((h.block _ hxw (fun t => t.2 rfl)).trans HX.out) k
  have hsz : ∀ wx, Fr (JF (isB w.heap.size) B) w1 wx → ∀ j, isB w.heap.size j → j < wx.heap.size := fun wx h j hj => Nat.lt_of_lt_of_le (hX j hj) h.size
  have hgx : ∀ wx, Fr (JF (isB w.heap.size) B) w1 wx → ErrT wx := fun wx h => (HG.out.ext (((Ext.refl w).alloc _).trans HE1.out)).fr h (fun t => by have := t.1; omega)
  refine Stab.wp_region_lex (Fr (JF (isB w.heap.size) B)) (Fr (JF (isB w.heap.size) B) w1) (JAt (isB w.heap.size) B nb bb rb s r) (by kernel_rfl) (by kernel_rfl) (fun _ _ h => Fr.ofExt _ h) (fun _ _ h k => h.trans k (fun _ _ t => t)) (fun _ _ h k => h.ext k) ((Fr.refl _ w1).drew) ((HJ.out _ _ HE1.out).ext (Ext.refl _).drew) ?_
  simp only [Stab.zipL, Nat.reduceAdd]
  iterate 3 (refine Stab.wpX_val rfl rfl ?_; apply Exists.intro; refine ⟨fun wx hC _ => ?_, ?_⟩; (have r0 := hHX wx hC; go_simp; exact ⟨Ext.refl _, rfl⟩); simp only [Act.put, List.setIfInBounds_toArray, List.set_cons_zero, List.set_cons_succ])
  refine Stab.wpX_call (fun u _ => u = .int .i64 (dropC s.us.length)) (fun _ => JAt (isB w.heap.size) B nb bb rb (dropS s i) r) rfl rfl (fun _ _ _ h _ => h) (fun _ _ _ h k => h.ext k) ?_ ?_
  · intro wx hC hT hF
    go_simp
    refine ⟨rfl, ?_⟩
    refine (jdrop_n hT (hsz wx hC) hff hB (hgx wx hC) i).mono ?_
    rintro ev w11 ⟨rfl, h1, h2⟩
    exact ⟨h2, rfl, h1⟩
  rintro ux ⟨_, _, rfl, _⟩
  simp only [Act.put, List.setIfInBounds_toArray, List.set_cons_zero, List.set_cons_succ]
  iterate 3 (refine Stab.wpX_val rfl rfl ?_; apply Exists.intro; refine ⟨fun wx hC _ => ?_, ?_⟩; (have r0 := hHX wx hC; go_simp; exact ⟨Ext.refl _, rfl⟩); simp only [Act.put, List.setIfInBounds_toArray, List.set_cons_zero, List.set_cons_succ])
  refine Stab.wpX_call (fun u _ => u = .int .i64 (dropC s.us.length)) (fun _ => JAt (isB w.heap.size) B nb bb rb (dropS s i) (dropR r i)) rfl rfl (fun _ _ _ h _ => h) (fun _ _ _ h k => h.ext k) ?_ ?_
  · intro wx hC hT hF
    go_simp
    refine ⟨rfl, ?_⟩
    refine (jdrop_r hT (hsz wx hC) (HS.out.fitsR hff) (HS.out.drop (i := i)).l i).mono ?_
    rintro ev w11 ⟨rfl, h1, h2⟩
    exact ⟨h2, by rw [HS.out.len], h1⟩
  rintro ux ⟨_, _, rfl, _⟩
  simp only [Act.put, List.setIfInBounds_toArray, List.set_cons_zero, List.set_cons_succ]
  iterate 2 (refine Stab.wpX_val rfl rfl ?_; apply Exists.intro; refine ⟨fun wx hC _ => ?_, ?_⟩; (have r0 := hHX wx hC; go_simp; exact ⟨Ext.refl _, rfl⟩); simp only [Act.put, List.setIfInBounds_toArray, List.set_cons_zero, List.set_cons_succ])
  refine Stab.wpX_end fun w12 hC12 hT12 _ => ?_
  go_wp2_with fail
  go_ret
  exact does_end hT12 HS.out.drop HB.out.drop (by omega) HE1.out hC12
end
end Go.Proofs.YtjnllilmimngoaaGreatDoor
