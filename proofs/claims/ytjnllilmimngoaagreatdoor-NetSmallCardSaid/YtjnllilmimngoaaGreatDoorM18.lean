/-
  put: letters are put behind all others.
  out: a letter is taken out.
  Drop.
  Take.
-/
import Derived.Test.YtjnllilmimngoaaGreatDoorM17
import Derived.Test.YtjnllilmimngoaaGreatDoorM16
import Derived.Test.YtjnllilmimngoaaGreatDoorStab
namespace Go.Proofs.YtjnllilmimngoaaGreatDoor
open Go.RowKit

theorem small_cont {l l' : Let} (h : l'.cont = l.cont) (hs : l.small) : l'.small := by
  obtain ⟨h1, h2⟩ := Let.cont_fields h
  have her := er_cont h2
  have hl := er_len her
  have q1 : l'.want = l.want := by rw [h1]
  have q2 : l'.mems = l.mems := by rw [h1]
  have q3 : l'.sums = l.sums := by rw [h1]
  have q4 : l'.bs = l.bs := by rw [h1]
  refine ⟨by rw [q1]; exact hs.s1, by rw [hl]; exact hs.s2, fun e he => ?_, by rw [q2]; exact hs.s4, by rw [q3]; exact hs.s5, by rw [q4]; exact hs.s6⟩
  have h3 : e.cont ∈ l.ents.map Ent.cont := by rw [← h2]; exact List.mem_map_of_mem he
  obtain ⟨y, hy, hye⟩ := List.mem_map.1 h3
  have hb : y.bs = e.bs := congrArg (fun c => c.2.2.2) hye
  rw [← hb]
  exact hs.s3 y hy

def PutP (w : World) (B nb bb : Nat) (A : Option Addr) (s : NetS) (ls : List Let) (e : Ending) (w' : World) : Prop :=
  e = .returned .nilIface ∧ ∃ ms : List Let, ms.map Let.cont = ls.map Let.cont ∧ (∀ m ∈ ms, m.fresh w.heap.size) ∧ NetStep w B nb bb A { s with us := s.us ++ ms } w'
def PutRel (w : World) (B nb bb : Nat) (A : Option Addr) (s : NetS) (ls : List Let) (i : Value) (wr : World) : Prop :=
  ∃ (k : Nat) (ms : List Let), k ≤ ls.length ∧ i = .int .i64 k ∧ ms.length = k ∧ ms.map Let.cont = (ls.take k).map Let.cont ∧ (∀ m ∈ ms, m.fresh w.heap.size) ∧ NetStep w B nb bb A { s with us := s.us ++ ms } wr
def OwnR (l l' : Let) (N : Nat) (u : Value) (w : World) : Prop := u = l'.v ∧ l'.cont = l.cont ∧ l'.inW w ∧ l'.fresh N
def OwnRe (l : Let) (N : Nat) (u : Value) (w : World) : Prop := ∃ l', OwnR l l' N u w
theorem OwnRe.up {l : Let} {N : Nat} {A : Option Addr} (hA : ∀ i, blk A i → i < N) (u : Value) : Stab.Up (Fr (blk A)) (OwnRe l N u) := fun w w' h he => by
  obtain ⟨l', h1, h2, h3, h4⟩ := h
  exact ⟨l', h1, h2, h3.fr he (h4.1.sub hA), h4⟩
def SlR (arr : Array Value) (N : Nat) (u : Value) (w : World) : Prop := ∃ b, u = .slice (some ⟨b, 0, none⟩) 1 1 ∧ w.heap[b]? = some (.cells arr 35) ∧ N ≤ b
theorem SlR.up {arr : Array Value} {N : Nat} {A : Option Addr} (hA : ∀ i, blk A i → i < N) (u : Value) : Stab.Up (Fr (blk A)) (SlR arr N u) := fun w w' h he => by
  obtain ⟨b, h1, h2, h3⟩ := h
  exact ⟨b, h1, (he.block b (heap_lt h2) (fun t => by have := hA b t; omega)).trans h2, h3⟩
def ApT (l : Let) (us : List Let) (B nb bb : Nat) (A : Option Addr) (N : Nat) (u : Value) (w : World) : Prop :=
  ∃ l' A2 c2, u = .slice A2 (us.length + 1) c2 ∧ l'.cont = l.cont ∧ l'.inW w ∧ l'.off (mutN nb bb A2) ∧ l'.fresh N ∧ OwnW 23 w B 35 A2 (us ++ [l']).length c2 (flat (us ++ [l'])) ∧ ∀ i, blk A2 i → blk A i ∨ N ≤ i
theorem ApT.up {l : Let} {us : List Let} {B nb bb : Nat} {A : Option Addr} {N : Nat} (u : Value) : Stab.Up Ext (ApT l us B nb bb A N u) := fun w w' h he => by
  obtain ⟨l', A2, c2, h1, h2, h3, h4, h7, h5, h6⟩ := h
  exact ⟨l', A2, c2, h1, h2, h3.ext he, h4, h7, h5.ext he, h6⟩
theorem range_heap {w : World} {b : Nat} {vs : Array Value} {t : TypeId} (h : w.heap[b]? = some (.cells vs t)) : World.rangeAt w b 0 vs.toList := fun j v hv => by
  rw [Nat.zero_add, cell_of_heap h]
  simpa using hv
theorem yieldsA_let {o : Oper} {a : Act} {w : World} (x : Operand) (ho : o.op = .load 35 x) (b f : Nat) (l : Let) (hx : a.eval x = .pointer (some ⟨b, f, none⟩)) (hg : World.rangeAt w b f l.arr.toList) :
    Stab.yields Tryz.prog o a w (fun u w' => Ext w w' ∧ u = l.v) := by
  simp only [Stab.yields, Stab.yieldsUpon, execOp, ho, hx, Instr.loadAt, Instr.sureAddr, Sem.run_bind, Sem.run_pure, Result.andThen_ok, run_loadVar_mid w b f 35 l.arr.toList _ hg Tryz.underlying35 rfl (by rw [infoLet, arr_len])]
  exact ⟨Ext.refl _, by simp [Let.v]⟩
theorem buildL (l : Let) : Array.foldl (fun (cs : Array Value) (x : Value × Nat) => cs.setIfInBounds x.snd x.fst) voteZ.arr l.arr.zipIdx 0 23 = l.arr := by
  kernel_rfl
theorem yieldsA_append {o : Oper} {a : Act} {w : World} {post : Value → World → Prop} (s x : Operand) (ho : o.op = .call { callee := .builtin .append, args := #[s, x], argTypes := #[22, 22] }) (vs vx : Value) (hs : a.eval s = vs) (hx : a.eval x = vx)
    (v' : Value) (w' : World) (h : (Builtin.append_ #[22, 22] o.type #[vs, vx]).run Tryz.prog w = .ok v' w') (hp : post v' w') : Stab.yields Tryz.prog o a w post := by
  simp only [Stab.yields, Stab.yieldsUpon, execOp, ho, resolve, invoke, builtin, Sem.run_bind, Sem.run_pure, Result.andThen_ok, List.map_toArray, List.map_cons, List.map_nil, hs, hx, h]
  exact hp
theorem run_append_L (w : World) (ty : TypeId) (B : Nat) (A : Option Addr) (c : Nat) (us : List Let) (hown : OwnW 23 w B 35 A us.length c (flat us))
    (D : Option Addr) (cc : Nat) (news : List Let) (hr : Rd w D (flat news)) (h63 : us.length + news.length ≤ 1000000) (hbase : B ≤ w.heap.size) :
    ∃ A' c' w', (Builtin.append_ #[22, 22] ty #[.slice A us.length c, .slice D news.length cc]).run Tryz.prog w = .ok (.slice A' (us.length + news.length) c') w' ∧ OwnW 23 w' B 35 A' (us ++ news).length c' (flat (us ++ news)) ∧ Fr (blk A) w w' ∧ (∀ i, blk A' i → blk A i ∨ w.heap.size ≤ i) := by
  obtain ⟨i0, hi, hz⟩ := Option.map_eq_some_iff.1 infoLetP
  simp only [Prod.mk.injEq] at hz
  obtain ⟨hz0, hz1, hz2⟩ := hz
  obtain ⟨z, hz3, hz4⟩ := Option.map_eq_some_iff.1 hz0
  obtain ⟨v', w', h1, ⟨A', c', rfl, h2, h3, h4⟩, _⟩ := run_append_W (P := Tryz.prog) w 22 ty 35 i0 z 23 264 Tryz.underlying22 hi hz3 hz1 (by omega) hz2 hz4 B A us.length c (flat us) hown D news.length cc (flat news) (flat_length news) hr (flat_one news) (by unfold maxLen; omega) (by omega) hbase
  exact ⟨A', c', w', h1, by rw [List.length_append, flat_append]; exact h2, h3, h4⟩

set_option maxRecDepth 100000 in
set_option maxHeartbeats 4000000 in
theorem put_any (w : World) (B nb bb : Nat) (A : Option Addr) (c : Nat) (s : NetS) (hN : NetAt w B nb bb A c s) (hf : s.us.length ≤ 10000) (hB : B ≤ w.heap.size) (D : Option Addr) (d : Nat) (ls : List Let) (hL : LetsIn w D ls) (hn : s.us.length + ls.length ≤ 10000)
    (hD : ls ≠ [] → Off (mutN nb bb A) D) (hO : ∀ l ∈ ls, Held (mutN nb bb A) w l) (hR : ∀ l ∈ ls, rightL l = true) :
    Calls Tryz.prog 45 #[.pointer (some ⟨bb, 0, none⟩), .slice D ls.length d] w (PutP w B nb bb A s ls) := by
  have c0 := bag_c0 hN.b1
  have HN := Lib.hid hN
  have HL := Lib.hid hL
  have HD := Lib.hid hD
  have HO := Lib.hid hO
  have HR := Lib.hid hR
  have e1 : decide (10000 - (s.us.length : Int) < (ls.length : Int)) = false := by simp; omega
  have x1 : IntKind.i64.wrap (10000 - (s.us.length : Int)) = 10000 - (s.us.length : Int) := IntWalk.i64_in _ (by omega)
  clear hN hL hD hO hR
  go_enter Tryz.func45, Tryz.ntmps45
  go_wp2_with fail
  go_loopw [19] (fun i wr => PutRel w B nb bb A s ls i wr) (fun i _ => ls.length - (intOf i).toNat)
  case atStart => exact ⟨0, [], Nat.zero_le _, rfl, rfl, rfl, fun m hm => by simp at hm, by rw [List.append_nil]; exact NetStep.rfl' HN.out (Ext.refl _)⟩
  case round =>
    obtain ⟨k, ms, hk, rfl, hml, hmc, hmo, A', c', hN', hF, hA⟩ := hrel
    have HMO := Lib.hid hmo
    clear hmo
    have HN' := Lib.hid hN'
    have HF := Lib.hid hF
    have HA := Lib.hid hA
    have HMC := Lib.hid hmc
    clear hN' hF hA hmc
    by_cases hlt : k < ls.length
    · obtain ⟨bD, fD, l, rfl, hl, hr, hin⟩ := HL.out.at_ hlt
      have hmem := List.mem_of_getElem? hl
      have hne : ls ≠ [] := by rintro rfl; simp at hlt
      have hnD : ¬ mutN nb bb A bD := HD.out hne _ rfl
      have hr2 : World.rangeAt wr bD (fD + k * 23) l.arr.toList := fun j v hv => HF.out.cell hnD (hr j v hv)
      have hsub : ∀ i, i < w.heap.size → mutN nb bb A' i → mutN nb bb A i := fun i hi h => by
        rcases h with h | h | h
        · exact .inl h
        · exact .inr (.inl h)
        · rcases HA.out i h with h | h
          · exact .inr (.inr h)
          · omega
      have HH := Lib.hid ((HO.out l hmem).fr HF.out hsub)
      have HRL := Lib.hid (HR.out l hmem)
      have HT := Lib.hid (take_snoc' hl)
      clear hr hl hmem hin hsub
      go_wp2_with (first | (refine wpList_load_letAt rfl _ rfl bD (fD + k * 23) l (by simp [Act.eval, Act.put]) hr2 ?_) | (refine wpList_store_all rfl _ _ rfl rfl wr.heap.size l _ rfl rfl (heap_alloc_new wr _) (by simp) ?_; intro w5 hG5 hF5; have HG5 := Lib.hid hG5; have HF5 := Lib.hid hF5; clear hG5 hF5))
      have HE5 := Lib.hid (show Ext wr w5 from ((Fr.ofExt (isB wr.heap.size) ((Ext.refl wr).alloc _)).trans HF5.out (fun _ _ h => h)).toExt (fun i hi => by unfold isB at hi; omega))
      have HN5 := Lib.hid (HN'.out.ext HE5.out)
      have HH5 := Lib.hid (HH.out.ext HE5.out)
      have hAlt : ∀ i, blk A' i → i < w5.heap.size := fun i hi => (HN5.out.u1.lt hi).2
      have hul : (s.us ++ ms).length = s.us.length + k := by rw [List.length_append, hml]
      have hBs : B ≤ w5.heap.size := Nat.le_trans hB (Nat.le_trans HF.out.size HE5.out.sz)
      have cb5 := bag_c0 HN5.out.b1
      have abb := HN5.out.abb
      have hmut : ∀ i, blk A' i → mutN nb bb A' i := fun i h => .inr (.inr h)
      clear hr2
      simp only at cb5
      refine Stab.wp_region_lexTail 9 (Fr (blk A')) (Fr (blk A') w5) (fun w => OwnW 23 w B 35 A' (s.us ++ ms).length c' (flat (s.us ++ ms))) (by kernel_rfl) (by kernel_rfl) (fun _ _ h => Fr.ofExt _ h) (fun _ _ h k => Fr.trans h k (fun _ _ t => t)) (fun _ _ h k => OwnW.ext h k) ((Fr.refl _ _).drew) HN5.out.u1 ?_
      simp only [Stab.zipL, Nat.reduceAdd, List.take, List.drop]
      iterate 5 (refine Stab.wpX_val rfl rfl ?_; apply Exists.intro; refine ⟨fun wx hC _ => ?_, ?_⟩; (have r := hC.cell abb cb5; go_simp; exact ⟨Ext.refl _, rfl⟩); simp only [Act.put, List.setIfInBounds_toArray, List.set_cons_zero, List.set_cons_succ])
      have hbx : ¬ blk A' wr.heap.size := fun h => by have := (HN'.out.u1.lt h).2; omega
      (refine Stab.wpX_val rfl rfl ?_; apply Exists.intro; refine ⟨fun wx hC _ => ?_, ?_⟩; (exact yieldsA_let _ rfl wr.heap.size 0 l rfl (range_heap ((hC.block _ (heap_lt HG5.out) hbx).trans HG5.out))); simp only [Act.put, List.setIfInBounds_toArray, List.set_cons_zero, List.set_cons_succ])
      refine Stab.wpX_call (OwnRe l w5.heap.size) (fun _ w => OwnW 23 w B 35 A' (s.us ++ ms).length c' (flat (s.us ++ ms))) rfl rfl (OwnRe.up hAlt) (fun _ _ _ h k => OwnW.ext h k) ?_ ?_
      · intro wx hC hT hF
        go_simp
        refine ⟨rfl, ?_⟩
        refine (own_any l wx (HH5.out.i.fr hC (HH5.out.o.sub hmut)) HH5.out.s).mono ?_
        rintro ev w9 ⟨l', rfl, h1, h2, h3, h4⟩
        exact ⟨Fr.ofExt _ h4, ⟨l', rfl, h1, h2, h3.le hC.size⟩, by have h5 := hT.ext h4; rw [hul] at h5; exact h5⟩
      rintro ux ⟨_, _, ⟨l', rfl, hlc, _, _⟩, _⟩
      simp only [Act.put, List.setIfInBounds_toArray, List.set_cons_zero, List.set_cons_succ]
      refine Stab.wpX_new (SlR l'.arr w5.heap.size) rfl rfl rfl (SlR.up hAlt) (fun _ _ h k => OwnW.ext h k) ?_ ?_
      · intro wx hC hF
        have hV : l'.v = .agg l'.arr := rfl
        rw [hV]
        go_simp
        exact ⟨(Ext.refl _).alloc _, wx.heap.size, rfl, by rw [heap_alloc_new]; exact congrArg (fun c => some (Obj.cells c 35 (0, 0))) (buildL l'), hC.size⟩
      rintro ux ⟨_, _, ⟨bs, rfl, _, _⟩, _⟩
      simp only [Act.put, List.setIfInBounds_toArray, List.set_cons_zero, List.set_cons_succ]
      refine Stab.wpX_call (fun _ _ => True) (ApT l (s.us ++ ms) B nb bb A' w5.heap.size) rfl rfl (fun _ _ _ _ _ => trivial) (ApT.up) ?_ ?_
      · intro wx hC hT hF
        obtain ⟨l2, h1, h2, h3, h4⟩ := (hF 6 rfl).1.2 rfl
        obtain ⟨b7, h5, h6, h7⟩ := (hF 7 rfl).2 rfl
        injection h5 with h5 _ _
        injection h5 with h5
        injection h5 with h5 _ _
        subst h5
        have harr : l'.arr = l2.arr := by unfold Let.v at h1; injection h1
        rw [harr] at h6
        have hr7 : Rd wx (some ⟨bs, 0, none⟩) (flat [l2]) := fun j u hj => ⟨_, rfl, by
          rw [add_lit', Nat.zero_add, cell_of_heap h6]
          simpa [flat] using hj⟩
        obtain ⟨A2, c2, w2, g1, g2, g3, g4⟩ := run_append_L wx 22 B A' c' (s.us ++ ms) hT (some ⟨bs, 0, none⟩) 1 [l2] hr7 (by rw [hul]; simp; omega) (Nat.le_trans hBs hC.size)
        rw [hul] at g1
        refine yieldsA_append _ _ rfl _ _ rfl rfl _ _ g1 ⟨g3, trivial, l2, A2, c2, by rw [hul]; rfl, h2, h3.fr g3 (h4.1.sub hAlt), ?_, h4, g2, fun i hi => (g4 i hi).imp id (fun h => Nat.le_trans hC.size h)⟩
        refine (h4.1.sub (T := mutN nb bb A') (fun i hi => (HN5.out.mut_lt hi).2)).new h3 (fun i hi h => ?_)
        rcases h with h | h | h
        · exact .inl h
        · exact .inr (.inl h)
        · rcases g4 i h with h | h
          · exact .inr (.inr h)
          · omega
      rintro ux ⟨_, _, _, ⟨l9, A2, c2, rfl, _, _, _, _, _, _⟩, _⟩
      simp only [Act.put, List.setIfInBounds_toArray, List.set_cons_zero, List.set_cons_succ]
      refine Stab.wpX_end fun w8 hC8 hT8 _ => ?_
      obtain ⟨l2, A3, c3, hv, h2, h3, h4, h7, h5, h6⟩ := hT8
      injection hv with hv1 _ hv2
      subst hv1 hv2
      have d0 := hC8.cell abb cb5
      have dz := frozen_of_heap ((hC8.block _ (heap_lt HN5.out.b1) abb).trans HN5.out.b1)
      have HC8 := Lib.hid hC8
      clear hC8
      go_wp2_with fail
      have hb8 : w8.heap[bb]? = some (.cells (bagA A' (s.us ++ ms).length c' s.sent s.gone s.lost s.twice) 68) := (HC8.out.block bb (heap_lt HN5.out.b1) abb).trans HN5.out.b1
      have hn8 : w8.heap[nb]? = some (.cells (netA bb s.off) 62) := (HC8.out.block nb (heap_lt HN5.out.n1) HN5.out.anb).trans HN5.out.n1
      have hset : Fr (isB bb) w8 (w8.setCell ⟨bb, 0, none⟩ (.slice A2 (s.us.length + k + 1) c2)) := (Fr.refl (isB bb) w8).set (p := ⟨bb, 0, none⟩) (.inl rfl) _
      have hlen2 : (s.us ++ (ms ++ [l2])).length = s.us.length + k + 1 := by simp [hml]; omega
      have hmA2 : ∀ i, i < w5.heap.size → mutN nb bb A2 i → mutN nb bb A' i := fun i hi h => by
        rcases h with h | h | h
        · exact .inl h
        · exact .inr (.inl h)
        · rcases h6 i h with h | h
          · exact .inr (.inr h)
          · omega
      have hsz0 : w.heap.size ≤ w5.heap.size := Nat.le_trans HF.out.size HE5.out.sz
      refine ⟨⟨k + 1, ms ++ [l2], by omega, rfl, by simp [hml], ?_, fun m hm => ?_, A2, c2, ?_, ?_, ?_⟩, by simp [intOf]; omega⟩
      · rw [HT.out, List.map_append, List.map_append, HMC.out]
        simp [h2]
      · rcases List.mem_append.1 hm with hm | hm
        · exact HMO.out m hm
        · simp at hm
          subst hm
          exact h7.le hsz0
      · refine ⟨?_, ?_, ?_, fun u hu => ?_, fun u hu => ?_, HN5.out.B1, HN5.out.B2, HN5.out.o1⟩
        · exact (hset.block nb (heap_lt hn8) HN5.out.nbb).trans hn8
        · rw [heap_set hb8]
          simp only [hlen2]
          rfl
        · have h9 := h5.fr hset (fun i hi e => h5.ne_blk hb8 (by decide) (by rw [← e]; exact hi))
          rw [List.append_assoc] at h9
          exact h9
        · simp only at hu
          rw [← List.append_assoc] at hu
          rcases List.mem_append.1 hu with hu | hu
          · have h10 := HN5.out.u2 u hu
            exact ⟨(h10.i.fr HC8.out (h10.o.sub hmut)).fr hset (h10.o.sub fun i t => .inr (.inl t)), h10.o.new h10.i hmA2, h10.s⟩
          · simp at hu
            subst hu
            exact ⟨h3.fr hset (h4.sub fun i t => .inr (.inl t)), h4, small_cont h2 HH.out.s⟩
        · simp only at hu
          rw [← List.append_assoc] at hu
          rcases List.mem_append.1 hu with hu | hu
          · exact HN5.out.u3 u hu
          · simp at hu
            subst hu
            rw [right_cont h2]
            exact HRL.out
      · refine (((HF.out.then HE5.out).trans HC8.out (fun i hi t => ?_)).trans hset (fun i _ t => .inr (.inl t)))
        rcases HA.out i t with h | h
        · exact .inr (.inr h)
        · omega
      · intro i hi
        rcases h6 i hi with h | h
        · exact HA.out i h
        · exact .inr (Nat.le_trans (Nat.le_trans HF.out.size HE5.out.sz) h)
    · obtain rfl : k = ls.length := by omega
      go_wp2
      go_ret
      exact ⟨rfl, ms, by rw [HMC.out, List.take_length], HMO.out, A', c', HN'.out, HF.out, HA.out⟩
set_option maxRecDepth 100000 in
set_option maxHeartbeats 4000000 in
theorem put_long (w : World) (bb n c : Nat) (A : Option Addr) (sent gone lost twice : Int) (hb : w.heap[bb]? = some (.cells (bagA A n c sent gone lost twice) 68)) (hf : n ≤ 10000) (D : Option Addr) (m d : Nat) (_hm : m ≤ 10000) (hl : 10000 < n + m) :
    Calls Tryz.prog 45 #[.pointer (some ⟨bb, 0, none⟩), .slice D m d] w fun e w' => e = .returned (numN 3) ∧ Ext w w' := by
  have c0 := bag_c0 hb
  have e1 : decide (10000 - (n : Int) < (m : Int)) = true := by simp; omega
  have x1 : IntKind.i64.wrap (10000 - (n : Int)) = 10000 - (n : Int) := IntWalk.i64_in _ (by omega)
  clear hb
  go_enter Tryz.func45, Tryz.ntmps45
  go_wp2
  go_ret
  exact ⟨rfl, Ext.refl _⟩
end Go.Proofs.YtjnllilmimngoaaGreatDoor
namespace Go.Proofs.YtjnllilmimngoaaGreatDoor
open Go.RowKit

theorem range_heapO {w : World} {b : Nat} {vs : Array Value} {t : TypeId} (h : w.heap[b]? = some (.cells vs t)) : World.rangeAt w b 0 vs.toList := fun j v hv => by
  rw [Nat.zero_add, cell_of_heap h]
  simpa using hv
/-- The letters without the k-th. -/
theorem NetAt.erase {w w1 : World} {B nb bb : Nat} {A : Option Addr} {c k : Nat} {s : NetS} (h : NetAt w B nb bb A c s) (ho : OwnW 23 w1 B 35 A (s.us.eraseIdx k).length c (flat (s.us.eraseIdx k))) (hf : Fr (blk A) w w1) :
    NetAt (w1.setCell ⟨bb, 0, none⟩ (.slice A (s.us.eraseIdx k).length c)) B nb bb A c { s with us := s.us.eraseIdx k } ∧ Fr (mutN nb bb A) w (w1.setCell ⟨bb, 0, none⟩ (.slice A (s.us.eraseIdx k).length c)) := by
  have hb1 : w1.heap[bb]? = some (.cells (bagA A s.us.length c s.sent s.gone s.lost s.twice) 68) := (hf.block bb (heap_lt h.b1) h.abb).trans h.b1
  have hn1 : w1.heap[nb]? = some (.cells (netA bb s.off) 62) := (hf.block nb (heap_lt h.n1) h.anb).trans h.n1
  have hset : Fr (isB bb) w1 (w1.setCell ⟨bb, 0, none⟩ (.slice A (s.us.eraseIdx k).length c)) := (Fr.refl (isB bb) w1).set (p := ⟨bb, 0, none⟩) (.inl rfl) _
  refine ⟨⟨(hset.block nb (heap_lt hn1) h.nbb).trans hn1, ?_, ho.fr hset (fun i hi e => ho.ne_blk hb1 (by decide) (by rw [← e]; exact hi)), fun u hu => ?_, fun u hu => h.u3 u (List.mem_of_mem_eraseIdx hu), h.B1, h.B2, h.o1⟩, (hf.mono (fun i _ t => .inr (.inr t))).trans hset (fun i _ t => .inr (.inl t))⟩
  · rw [heap_set hb1]
    rfl
  · have h10 := h.u2 u (List.mem_of_mem_eraseIdx hu)
    exact ⟨(h10.i.fr hf (h10.o.sub fun i t => .inr (.inr t))).fr hset (h10.o.sub fun i t => .inr (.inl t)), h10.o, h10.s⟩
theorem results_let {fn : Func} (h : fn.results = #[.cell 4 35, .tmp 5]) (tmps : Array Value) (w : World) (b : Nat) (l : Let) (e : Value) (h2 : tmps.getD 4 undef = .pointer (some ⟨b, 0, none⟩)) (h3 : tmps.getD 5 undef = e) (hg : w.heap[b]? = some (.cells l.arr 35)) :
    (results fn tmps).run Tryz.prog w = .ok (.tuple #[l.v, e]) w := by
  have h2' : tmps[4]?.getD undef = .pointer (some ⟨b, 0, none⟩) := by simpa using h2
  have h3' : tmps[5]?.getD undef = e := by simpa using h3
  simp [results, h, h2', h3', asAddr, load_let w b l hg]
def OutP (w : World) (B nb bb : Nat) (A : Option Addr) (s : NetS) (i : Int) (e : Ending) (w' : World) : Prop :=
  (s.us = [] ∧ e = .returned (.tuple #[voteZ.v, numN 7]) ∧ Ext w w') ∨
  ∃ (k : Nat) (u : Let), s.us[k]? = some u ∧ (i % (s.us.length : Int)) = (k : Int) ∧ e = .returned (.tuple #[u.v, .nilIface]) ∧ NetStep w B nb bb A { s with us := s.us.eraseIdx k } w'
set_option maxRecDepth 100000 in
set_option maxHeartbeats 4000000 in
theorem out_any (w : World) (B nb bb : Nat) (A : Option Addr) (c : Nat) (s : NetS) (hN : NetAt w B nb bb A c s) (hf : s.us.length ≤ 10000) (i : Int) :
    Calls Tryz.prog 48 #[.pointer (some ⟨bb, 0, none⟩), .int .i64 i] w (OutP w B nb bb A s i) := by
  by_cases h0 : s.us.length = 0
  · have hu : s.us = [] := List.eq_nil_of_length_eq_zero h0
    have hE := (Ext.refl w).alloc (.cells voteZ.arr 35)
    have HP := Lib.hid (place_any i bb s.us.length c A s.sent s.gone s.lost s.twice _ (hN.ext hE).b1 hf)
    have HG := Lib.hid (heap_alloc_new w (.cells voteZ.arr 35))
    unfold placeE at HP
    rw [if_pos h0, if_pos h0] at HP
    unfold numN at HP
    clear hN
    go_enter Tryz.func48, Tryz.ntmps48
    go_wp2_with fail
    refine (HP.out).mono ?_
    rintro ev w1 ⟨rfl, hE1⟩
    have hg1 := hE1.blk HG.out
    have HE1 := Lib.hid (hE.trans hE1)
    clear hE1
    go_wp2_with (first | (refine wpList_load_letAt rfl _ rfl w.heap.size 0 voteZ rfl (range_heapO hg1) ?_) | (refine wpList_store_all rfl _ _ rfl rfl w.heap.size voteZ _ rfl rfl hg1 (by simp [Let.arr]) ?_; intro w5 hG5 hF5; have HG5 := Lib.hid hG5; have HF5 := Lib.hid hF5; clear hG5 hF5))
    exact bodyPost_ret (v := .tuple #[voteZ.v, numN 7]) (results_let Tryz.results48 _ _ _ voteZ _ rfl rfl HG5.out) rfl (.inl ⟨hu, rfl, ((Fr.ofExt (isB w.heap.size) HE1.out).trans HF5.out (fun _ _ h => h)).toExt (fun i hi => by unfold isB at hi; omega)⟩)
  · obtain ⟨k, hk⟩ : ∃ k : Nat, i % (s.us.length : Int) = (k : Int) := ⟨(i % (s.us.length : Int)).toNat, by have := Int.emod_nonneg i (show (s.us.length : Int) ≠ 0 by omega); omega⟩
    have hkl : k < s.us.length := by have := Int.emod_lt_of_pos i (show 0 < (s.us.length : Int) by omega); omega
    have hE := (Ext.refl w).alloc (.cells voteZ.arr 35)
    have HP := Lib.hid (place_any i bb s.us.length c A s.sent s.gone s.lost s.twice _ (hN.ext hE).b1 hf)
    have HG := Lib.hid (heap_alloc_new w (.cells voteZ.arr 35))
    unfold placeE at HP
    rw [if_neg h0, if_neg h0, hk] at HP
    have HN := Lib.hid (hN.ext hE)
    have HE := Lib.hid hE
    have hN0 := Lib.hid hN
    clear hN hE
    go_enter Tryz.func48, Tryz.ntmps48
    go_wp2_with fail
    refine (HP.out).mono ?_
    rintro ev w1 ⟨rfl, hE1⟩
    have hg1 := hE1.blk HG.out
    have HN1 := Lib.hid (HN.out.ext hE1)
    have HE1 := Lib.hid (HE.out.trans hE1)
    obtain ⟨g, f, u, rfl, hu, hr, _⟩ := HN1.out.lets.at_ hkl
    have HU := Lib.hid hu
    have hmod := Lib.hid hk
    have cb1 := bag_c0 HN1.out.b1
    have hbne : ¬ isB w.heap.size bb := fun e => by have := heap_lt hN0.out.b1; unfold isB at e; omega
    clear hE1 hu hk
    go_wp2_with (first | (refine wpList_load_letAt rfl _ rfl g (f + k * 23) u (by simp [Act.eval, Act.put]) hr ?_) | (refine wpList_store_all rfl _ _ rfl rfl w.heap.size u _ rfl rfl hg1 (by simp [Let.arr]) ?_; intro w5 hG5 hF5; have cb5 := hF5.cell (p := ⟨bb, 0, none⟩) hbne cb1; have HG5 := Lib.hid hG5; have HF5 := Lib.hid hF5; clear hG5 hF5))
    have HN5 := Lib.hid (HN1.out.fr HF5.out (fun i hi h => by
      have := (hN0.out.mut_lt h).2
      unfold isB at hi
      omega) (fun v hv => (hN0.out.u2 v hv).o.new (hN0.out.u2 v hv).i (fun i hi h => by unfold isB at h; omega)))
    refine (delete_any B _ c s.us k hkl w5 HN5.out.u1).mono ?_
    rintro ev w6 ⟨rfl, hO6, hF6⟩
    have cb6 := hF6.cell (p := ⟨bb, 0, none⟩) HN5.out.abb cb5
    have hb6 := (hF6.block bb (heap_lt HN5.out.b1) HN5.out.abb).trans HN5.out.b1
    have fz := frozen_of_heap hb6
    have hgne : ¬ blk (some ⟨g, f, none⟩) w.heap.size := fun e => by
      have := (hN0.out.mut_lt (.inr (.inr e))).2
      omega
    have hg6 := (hF6.block w.heap.size (heap_lt HG5.out) hgne).trans HG5.out
    have hg7 : (w6.setCell ⟨bb, 0, none⟩ (.slice (some ⟨g, f, none⟩) (s.us.length - 1) c)).heap[w.heap.size]? = some (.cells u.arr 35) := (Below.heap_setCell w6 ⟨bb, 0, none⟩ _ w.heap.size (fun e => hbne e.symm)).trans hg6
    have hst := Lib.hid (HN5.out.erase hO6 hF6)
    have hel : (s.us.eraseIdx k).length = s.us.length - 1 := by rw [List.length_eraseIdx, if_pos hkl]
    rw [hel] at hst
    have HF6 := Lib.hid hF6
    clear hO6 hF6 hb6 hg6
    go_wp2_with (first | (refine wpList_load_letAt rfl _ rfl w.heap.size 0 u rfl (range_heapO hg7) ?_) | (refine wpList_store_all rfl _ _ rfl rfl w.heap.size u _ rfl rfl hg7 (by simp [Let.arr]) ?_; intro w9 hG9 hF9; have HG9 := Lib.hid hG9; have HF9 := Lib.hid hF9; clear hG9 hF9))
    refine bodyPost_ret (v := .tuple #[u.v, .nilIface]) (results_let Tryz.results48 _ _ _ u _ rfl rfl HG9.out) rfl (.inr ⟨k, u, HU.out, hmod.out, rfl, ?_⟩)
    have HE5 : Ext w w5 := ((Fr.ofExt (isB w.heap.size) HE1.out).trans HF5.out (fun _ _ h => h)).toExt (fun i hi => by unfold isB at hi; omega)
    obtain ⟨hst1, hst2⟩ := hst.out
    exact ⟨_, c, hst1.fr HF9.out (fun i hi h => by
      have := (hN0.out.mut_lt h).2
      unfold isB at hi
      omega) (fun v hv => (hN0.out.u2 v (List.mem_of_mem_eraseIdx hv)).o.new (hN0.out.u2 v (List.mem_of_mem_eraseIdx hv)).i (fun i hi h => by unfold isB at h; omega)), ((Fr.ofExt _ HE5).trans hst2 (fun _ _ t => t)).trans HF9.out (fun i hi h => by unfold isB at h; omega), fun i hi => .inl hi⟩
end Go.Proofs.YtjnllilmimngoaaGreatDoor
namespace Go.Proofs.YtjnllilmimngoaaGreatDoor
open Go.RowKit

theorem ErrT.fr {S : Nat → Prop} {w w' : World} (h : ErrT w) (hf : Fr S w w') (h0 : ¬ S 0) : ErrT w' := hf.cell h0 h
theorem NetAt.mut0 {w : World} {B nb bb : Nat} {A : Option Addr} {c : Nat} {s : NetS} (h : NetAt w B nb bb A c s) (hB : 0 < B) : ¬ mutN nb bb A 0 := fun e => by
  have := (h.mut_lt e).1
  omega
theorem bag_ck {w : World} {bb n c : Nat} {A : Option Addr} {s g l t : Int} {ty : TypeId} (h : w.heap[bb]? = some (.cells (bagA A n c s g l t) ty)) : w.cell? ⟨bb, 2, none⟩ = some (.int .i64 s) ∧ w.cell? ⟨bb, 3, none⟩ = some (.int .i64 g) ∧ w.cell? ⟨bb, 4, none⟩ = some (.int .i64 l) ∧ w.cell? ⟨bb, 5, none⟩ = some (.int .i64 t) := by
  refine ⟨?_, ?_, ?_, ?_⟩ <;> (rw [cell_of_heap h]; rfl)
def DropP (w : World) (B nb bb : Nat) (A : Option Addr) (s : NetS) (i : Int) (e : Ending) (w' : World) : Prop :=
  (s.us = [] ∧ e = .returned (.int .i64 7) ∧ Ext w w') ∨
  ∃ (k : Nat) (u : Let), s.us[k]? = some u ∧ (i % (s.us.length : Int)) = (k : Int) ∧ e = .returned (.int .i64 0) ∧ NetStep w B nb bb A { s with us := s.us.eraseIdx k, lost := s.lost + 1 } w'
set_option maxRecDepth 100000 in
set_option maxHeartbeats 4000000 in
theorem drop_any (w : World) (B nb bb : Nat) (A : Option Addr) (c : Nat) (s : NetS) (hN : NetAt w B nb bb A c s) (hf : s.fits) (_hB : 0 < B) (hg : ErrT w) (i : Int) :
    Calls Tryz.prog 20 #[.pointer (some ⟨nb, 0, none⟩), .int .i64 i] w (DropP w B nb bb A s i) := by
  have HT := Lib.hid (there_any nb bb s.off w hN.n1)
  have HO := Lib.hid (out_any w B nb bb A c s hN hf.f1 i)
  have c0 := net_c0 hN.n1
  have HN := Lib.hid hN
  have HG := Lib.hid hg
  have HF := Lib.hid hf
  clear hN hg hf
  go_enter Tryz.func20, Tryz.ntmps20
  go_wp2_with fail
  refine (HT.out).mono ?_
  rintro ev w1 ⟨rfl, rfl⟩
  go_wp2_with fail
  refine (HO.out).mono ?_
  rintro ev w1 (⟨hu, rfl, hE1⟩ | ⟨k, u, hu, hk, rfl, A', c', hN1, hF1, hA1⟩)
  · unfold numN
    have HE1 := Lib.hid hE1
    clear hE1
    go_wp2_with (refine wpList_store_all rfl _ _ rfl rfl w1.heap.size voteZ _ rfl rfl (heap_alloc_new w1 _) (by simp) ?_; intro w5 hG5 hF5; have HF5 := Lib.hid hF5; clear hG5 hF5)
    have HE5 := Lib.hid (show Ext w w5 from ((Fr.ofExt (isB w1.heap.size) (HE1.out.alloc _)).trans HF5.out (fun _ _ h => h)).toExt (fun i hi => by have := HE1.out.sz; unfold isB at hi; omega))
    have HTD := Lib.hid (tolds_num 7 w5 (HG.out.ext HE5.out))
    unfold numN at HTD
    refine (HTD.out).mono ?_
    rintro ev w6 ⟨rfl, hE6⟩
    go_wp2_with fail
    go_ret
    exact .inl ⟨hu, rfl, HE5.out.trans hE6⟩
  · have HN1 := Lib.hid hN1
    have HF1 := Lib.hid hF1
    have HA1 := Lib.hid hA1
    have HU := Lib.hid hu
    have HK := Lib.hid hk
    have hl := HF.out.f4
    have x1 : IntKind.i64.wrap (s.lost + 1) = s.lost + 1 := IntWalk.i64_in _ (by omega)
    clear hN1 hF1 hA1 hu hk
    go_wp2_with (refine wpList_store_all rfl _ _ rfl rfl w1.heap.size u _ rfl rfl (heap_alloc_new w1 _) (by simp) ?_; intro w5 hG5 hF5; have hE5 : Ext w1 w5 := ((Fr.ofExt (isB w1.heap.size) ((Ext.refl w1).alloc _)).trans hF5 (fun _ _ h => h)).toExt (fun i hi => by unfold isB at hi; omega); have hN5 := HN1.out.ext hE5; have d0 := net_c0 hN5.n1; have d1 := bag_ck hN5.b1; have fz := frozen_of_heap hN5.b1; have HN5 := Lib.hid hN5; have HE5 := Lib.hid hE5; clear hG5 hF5 hN5 hE5)
    have hset : Fr (isB bb) w5 (w5.setCell ⟨bb, 4, none⟩ (.int .i64 (s.lost + 1))) := (Fr.refl (isB bb) w5).set (p := ⟨bb, 4, none⟩) (.inl rfl) _
    have hst := HN5.out.count (sent := s.sent) (gone := s.gone) (lost := s.lost + 1) (twice := s.twice) (by rw [heap_set HN5.out.b1]; rfl) hset
    refine (tolds_nil _).mono ?_
    rintro ev w6 ⟨rfl, hE6⟩
    go_wp2_with fail
    go_ret
    exact .inr ⟨k, u, HU.out, HK.out, rfl, A', c', hst.ext hE6, ((HF1.out.then HE5.out).trans hset (fun i _ t => .inr (.inl t))).then hE6, HA1.out⟩
end Go.Proofs.YtjnllilmimngoaaGreatDoor
namespace Go.Proofs.YtjnllilmimngoaaGreatDoor
open Go.RowKit

def TakeP (w : World) (B nb bb : Nat) (A : Option Addr) (s : NetS) (i : Int) (e : Ending) (w' : World) : Prop :=
  (s.us = [] ∧ e = .returned (.tuple #[voteZ.v, .int .i64 7]) ∧ Ext w w') ∨
  ∃ (k : Nat) (u : Let), s.us[k]? = some u ∧ (i % (s.us.length : Int)) = (k : Int) ∧
    (((cut s.off u.frm || cut s.off u.too) = true ∧ e = .returned (.tuple #[voteZ.v, .int .i64 11]) ∧ NetStep w B nb bb A { s with us := s.us.eraseIdx k, lost := s.lost + 1 } w') ∨
     ((cut s.off u.frm || cut s.off u.too) = false ∧ e = .returned (.tuple #[u.v, .int .i64 0]) ∧ NetStep w B nb bb A { s with us := s.us.eraseIdx k, gone := s.gone + 1 } w'))
set_option maxRecDepth 100000 in
set_option maxHeartbeats 4000000 in
theorem take_any (w : World) (B nb bb : Nat) (A : Option Addr) (c : Nat) (s : NetS) (hN : NetAt w B nb bb A c s) (hf : s.fits) (hB : 0 < B) (hg : ErrT w) (i : Int) :
    Calls Tryz.prog 18 #[.pointer (some ⟨nb, 0, none⟩), .int .i64 i] w (TakeP w B nb bb A s i) := by
  have hE := (Ext.refl w).alloc (.cells voteZ.arr 35)
  have HT := Lib.hid (there_any nb bb s.off _ (hN.ext hE).n1)
  have HO := Lib.hid (out_any _ B nb bb A c s (hN.ext hE) hf.f1 i)
  have c0 := net_c0 (hN.ext hE).n1
  have HG0 := Lib.hid (heap_alloc_new w (.cells voteZ.arr 35))
  have HN := Lib.hid hN
  have HG := Lib.hid hg
  have HF := Lib.hid hf
  have HE := Lib.hid hE
  clear hN hg hf hE
  go_enter Tryz.func18, Tryz.ntmps18
  go_wp2_with fail
  refine (HT.out).mono ?_
  rintro ev w1 ⟨rfl, rfl⟩
  go_wp2_with fail
  refine (HO.out).mono ?_
  rintro ev w1 (⟨hu, rfl, hE1⟩ | ⟨k, u, hu, hk, rfl, A', c', hN1, hF1, hA1⟩)
  · unfold numN
    have HE1 := Lib.hid (HE.out.trans hE1)
    have hg1 := hE1.blk HG0.out
    clear hE1
    have HI := Lib.hid (fun w => Is_num7 w)
    have HTD := Lib.hid (fun w => tolds_num 7 w)
    unfold numN at HI HTD
    go_wp2_with (refine wpList_store_all rfl _ _ rfl rfl w1.heap.size voteZ _ rfl rfl (heap_alloc_new w1 _) (by simp) ?_; intro w5 hG5 hF5; have HF5 := Lib.hid hF5; clear hG5 hF5)
    have hE15 : Ext w1 w5 := ((Fr.ofExt (isB w1.heap.size) ((Ext.refl w1).alloc _)).trans HF5.out (fun _ _ h => h)).toExt (fun i hi => by unfold isB at hi; omega)
    have HE5 := Lib.hid (HE1.out.trans hE15)
    have hg5 := hE15.blk hg1
    clear hE15
    refine (HI.out _).mono ?_
    rintro ev w6 ⟨rfl, hE6⟩
    have HE6 := Lib.hid (HE5.out.trans hE6)
    have hg6 := hE6.blk hg5
    clear hE6
    go_wp2_with fail
    refine (HTD.out _ (HG.out.ext HE6.out)).mono ?_
    rintro ev w7 ⟨rfl, hE7⟩
    have HE7 := Lib.hid (HE6.out.trans hE7)
    have hg7 := hE7.blk hg6
    clear hE7
    go_wp2_with (refine wpList_store_all rfl _ _ rfl rfl w.heap.size voteZ _ rfl rfl hg7 (by simp [Let.arr]) ?_; intro w8 hG8 hF8; have HF8 := Lib.hid hF8; have HG8 := Lib.hid hG8; clear hG8 hF8)
    exact bodyPost_ret (v := .tuple #[voteZ.v, .int .i64 7]) (results_let Tryz.results18 _ _ _ voteZ _ rfl rfl HG8.out) rfl (.inl ⟨hu, rfl, ((Fr.ofExt (isB w.heap.size) HE7.out).trans HF8.out (fun _ _ h => h)).toExt (fun i hi => by unfold isB at hi; omega)⟩)
  · have HN1 := Lib.hid hN1
    have HF1 := Lib.hid hF1
    have HA1 := Lib.hid hA1
    have HU := Lib.hid hu
    have HK := Lib.hid hk
    have hmem := List.mem_of_getElem? hu
    have hends := right_ends (HN.out.u3 u hmem)
    have hrb : ¬ mutN nb bb A w.heap.size := fun h => by have := (HN.out.mut_lt h).2; omega
    have hg1 := (hF1.block w.heap.size (heap_lt HG0.out) hrb).trans HG0.out
    have hrb1 : ¬ mutN nb bb A' w.heap.size := fun h => by
      rcases h with h | h | h
      · exact hrb (.inl h)
      · exact hrb (.inr (.inl h))
      · rcases hA1 _ h with h | h
        · exact hrb (.inr (.inr h))
        · rw [World.size_alloc] at h; omega
    have hlost := HF.out.f4
    have hgone := HF.out.f3
    have x1 : IntKind.i64.wrap (s.lost + 1) = s.lost + 1 := IntWalk.i64_in _ (by omega)
    have x2 : IntKind.i64.wrap (s.gone + 1) = s.gone + 1 := IntWalk.i64_in _ (by omega)
    clear hN1 hF1 hA1 hu hk
    go_wp2_with (first | (refine wpList_load_letAt rfl _ rfl w1.heap.size 0 u rfl (range_heapO HG5.out) ?_) | (refine wpList_store_all rfl _ _ rfl rfl w1.heap.size u _ rfl rfl (heap_alloc_new w1 _) (by simp) ?_; intro w5 hG5 hF5; have hE15 : Ext w1 w5 := ((Fr.ofExt (isB w1.heap.size) ((Ext.refl w1).alloc _)).trans hF5 (fun _ _ h => h)).toExt (fun i hi => by unfold isB at hi; omega); have HN5 := Lib.hid (HN1.out.ext hE15); have d0 := net_c0 HN5.out.n1; have HG5 := Lib.hid hG5; have HE15 := Lib.hid hE15; clear hG5 hF5 hE15))
    refine (goes_any u nb bb s.off w5 HN5.out.n1 HN5.out.o1 hends.1 hends.2).mono ?_
    rintro ev w6 ⟨rfl, hE6⟩
    have HN6 := Lib.hid (HN5.out.ext hE6)
    have HE6 := Lib.hid (HE15.out.trans hE6)
    have HG6 := Lib.hid (hE6.blk HG5.out)
    have hErr6 := Lib.hid (((HG.out.ext HE.out).fr HF1.out (HN.out.mut0 hB)).ext HE6.out)
    have hg6 := HE6.out.blk hg1
    clear hE6 d0
    unfold goesV
    cases hc : (cut s.off u.frm || cut s.off u.too)
    · rw [if_neg (by simp)]
      have HI := Lib.hid (fun w => Is_nilN 11 w)
      unfold numN at HI
      go_wp2_with fail
      refine (HI.out _).mono ?_
      rintro ev w7 ⟨rfl, rfl⟩
      have d0 := net_c0 HN6.out.n1
      have d1 := bag_ck HN6.out.b1
      have fz := frozen_of_heap HN6.out.b1
      have hbb : bb ≠ w.heap.size := fun e => hrb (e ▸ .inr (.inl rfl))
      have hset : Fr (isB bb) w6 (w6.setCell ⟨bb, 3, none⟩ (.int .i64 (s.gone + 1))) := (Fr.refl (isB bb) w6).set (p := ⟨bb, 3, none⟩) (.inl rfl) _
      have hg9 := (hset.block w.heap.size (heap_lt hg6) (fun e => hbb e.symm)).trans hg6
      have hl9 := (hset.block w1.heap.size (heap_lt HG6.out) (fun e => by
        have := (HN1.out.mut_lt (.inr (.inl rfl))).2
        unfold isB at e
        omega)).trans HG6.out
      have hst := Lib.hid (HN6.out.count (sent := s.sent) (gone := s.gone + 1) (lost := s.lost) (twice := s.twice) (by rw [heap_set HN6.out.b1]; rfl) hset)
      have HS := Lib.hid hset
      clear hset
      go_wp2_with (first | (refine wpList_load_letAt rfl _ rfl w1.heap.size 0 u rfl (range_heapO hl9) ?_) | (refine wpList_store_all rfl _ _ rfl rfl w.heap.size u _ rfl rfl hg9 (by simp [Let.arr]) ?_; intro w8 hG8 hF8; have HF8 := Lib.hid hF8; have HG8 := Lib.hid hG8; clear hG8 hF8))
      refine bodyPost_ret (v := .tuple #[u.v, .int .i64 0]) (results_let Tryz.results18 _ _ _ u _ rfl rfl HG8.out) rfl (.inr ⟨k, u, HU.out, HK.out, .inr ⟨hc, rfl, A', c', hst.out.fr HF8.out (fun i hi h => hrb1 (by rw [← (show i = w.heap.size from hi)]; exact h)) (fun v hv => (HN.out.u2 v (List.mem_of_mem_eraseIdx hv)).o.new (HN.out.u2 v (List.mem_of_mem_eraseIdx hv)).i (fun i hi h => by unfold isB at h; omega)), ?_, fun i hi => (HA1.out i hi).imp id (fun h => by rw [World.size_alloc] at h; omega)⟩⟩)
      exact (((((Fr.ofExt _ HE.out).trans HF1.out (fun _ _ t => t)).then HE6.out).trans HS.out (fun i _ t => .inr (.inl t)))).trans HF8.out (fun i hi t => by unfold isB at t; omega)
    · rw [if_pos rfl]
      have HI := Lib.hid (fun w => Is_lost11 u.frm u.too w)
      have HTD := Lib.hid (fun w => tolds_lost u.frm u.too w)
      unfold numN lostV at HI
      unfold lostV at HTD ⊢
      go_wp2_with fail
      refine (HI.out _).mono ?_
      rintro ev w7 ⟨rfl, hE7⟩
      have HN7 := Lib.hid (HN6.out.ext hE7)
      have HErr7 := Lib.hid (hErr6.out.ext hE7)
      have HE6 := Lib.hid (HE6.out.trans hE7)
      have hg6 := hE7.blk hg6
      have d0 := net_c0 HN7.out.n1
      have d1 := bag_ck HN7.out.b1
      have fz := frozen_of_heap HN7.out.b1
      have hbb : bb ≠ w.heap.size := fun e => hrb (e ▸ .inr (.inl rfl))
      have hset : Fr (isB bb) w7 (w7.setCell ⟨bb, 4, none⟩ (.int .i64 (s.lost + 1))) := (Fr.refl (isB bb) w7).set (p := ⟨bb, 4, none⟩) (.inl rfl) _
      have hg9 := (hset.block w.heap.size (heap_lt hg6) (fun e => hbb e.symm)).trans hg6
      have hst := Lib.hid (HN7.out.count (sent := s.sent) (gone := s.gone) (lost := s.lost + 1) (twice := s.twice) (by rw [heap_set HN7.out.b1]; rfl) hset)
      have hErr9 := HErr7.out.fr hset (fun e => HN7.out.mut0 hB (.inr (.inl e)))
      have HS := Lib.hid hset
      clear hset hE7
      go_wp2_with fail
      refine (HTD.out _ hErr9).mono ?_
      rintro ev w9 ⟨rfl, hE9⟩
      have hg10 := hE9.blk hg9
      have hst2 := Lib.hid (hst.out.ext hE9)
      have HE9 := Lib.hid hE9
      clear hE9
      go_wp2_with (refine wpList_store_all rfl _ _ rfl rfl w.heap.size voteZ _ rfl rfl hg10 (by simp [Let.arr]) ?_; intro w8 hG8 hF8; have HF8 := Lib.hid hF8; have HG8 := Lib.hid hG8; clear hG8 hF8)
      refine bodyPost_ret (v := .tuple #[voteZ.v, .int .i64 11]) (results_let Tryz.results18 _ _ _ voteZ _ rfl rfl HG8.out) rfl (.inr ⟨k, u, HU.out, HK.out, .inl ⟨hc, rfl, A', c', hst2.out.fr HF8.out (fun i hi h => hrb1 (by rw [← (show i = w.heap.size from hi)]; exact h)) (fun v hv => (HN.out.u2 v (List.mem_of_mem_eraseIdx hv)).o.new (HN.out.u2 v (List.mem_of_mem_eraseIdx hv)).i (fun i hi h => by unfold isB at h; omega)), ?_, fun i hi => (HA1.out i hi).imp id (fun h => by rw [World.size_alloc] at h; omega)⟩⟩)
      exact (((((Fr.ofExt _ HE.out).trans HF1.out (fun _ _ t => t)).then HE6.out).trans HS.out (fun i _ t => .inr (.inl t))).then HE9.out).trans HF8.out (fun i hi t => by unfold isB at t; omega)
end Go.Proofs.YtjnllilmimngoaaGreatDoor
