/-
  append onto a row of the call's own, at the walk: a slice that reads, and a make as the source.
-/
import Derived.Test.YtigljihohpdpeaaGreatDoorMem
import Derived.Tactics
import Derived.RegionTactic
namespace Go.Proofs.YtigljihohpdpeaaGreatDoor
open Go.RowKit

section
variable {P : Program} (w : World)

theorem wpList_append_rd {ops : Array Oper} {rest : List Oper} {o : Oper} {a : Act} {Q : Exit → Act → World → Prop} (hgd : o.guard = none) (s x : Operand) (t : TypeId)
    (ho : o.op = .call { callee := .builtin .append, args := #[s, x], argTypes := #[t, t] })
    (e : TypeId) (i : TypeInfo) (z : Value) (bytes : Nat) (ht : P.underlying t = some (.slice e)) (hi : P.info? e = some i) (hz : i.zero = some z)
    (hsize : i.size = 1) (hby : i.bytes = bytes) (hzs : z.cells.size = 1) (B : Nat) (A : Option Addr) (n c : Nat) (xs : List Value) (hs : a.eval s = .slice A n c) (hn : n = xs.length) (hown : Own w B e A c xs)
    (D : Option Addr) (m cc : Nat) (news : List Value) (hx : a.eval x = .slice D m cc) (hm : m = news.length) (hr : Rd w D news) (h1 : ∀ u ∈ news, u.oneCell' = true)
    (h63 : xs.length + news.length ≤ maxLen) (hbytes : (xs.length + news.length) * bytes ≤ 140737488355328) (hbase : B ≤ w.heap.size)
    (h : ∀ A' c' w', Own w' B e A' c' (xs ++ news) → Fr (blk A) w w' → (∀ i, blk A' i → blk A i ∨ w.heap.size ≤ i) → wpList P ops Q rest (a.put o.dst (.slice A' (xs ++ news).length c')) w') : wpList P ops Q (o :: rest) a w := by
  refine wpList_plain hgd fun K hK => ?_
  subst hn hm
  obtain ⟨v', w', hrun, hg⟩ := run_append_rd (P := P) w t o.type e i z bytes ht hi hz hsize hby hzs B A c xs hown D cc news hr h1 h63 hbytes hbase
  obtain ⟨A', c', rfl, h2, h3, h4⟩ := hg.parts
  unfold Oper.wp execOp
  simp only [ho, resolve, invoke, builtin, Sem.run_bind, Sem.run_pure, Result.andThen_ok, List.map_toArray, List.map_cons, List.map_nil, hs, hx, hrun]
  exact hK _ _ (h A' c' w' h2 h3 h4)

/-- the same, with what became of the old block. -/
theorem wpList_append_rd2 {ops : Array Oper} {rest : List Oper} {o : Oper} {a : Act} {Q : Exit → Act → World → Prop} (hgd : o.guard = none) (s x : Operand) (t : TypeId)
    (ho : o.op = .call { callee := .builtin .append, args := #[s, x], argTypes := #[t, t] })
    (e : TypeId) (i : TypeInfo) (z : Value) (bytes : Nat) (ht : P.underlying t = some (.slice e)) (hi : P.info? e = some i) (hz : i.zero = some z)
    (hsize : i.size = 1) (hby : i.bytes = bytes) (hzs : z.cells.size = 1) (B : Nat) (A : Option Addr) (n c : Nat) (xs : List Value) (hs : a.eval s = .slice A n c) (hn : n = xs.length) (hown : Own w B e A c xs)
    (D : Option Addr) (m cc : Nat) (news : List Value) (hx : a.eval x = .slice D m cc) (hm : m = news.length) (hr : Rd w D news) (h1 : ∀ u ∈ news, u.oneCell' = true)
    (h63 : xs.length + news.length ≤ maxLen) (hbytes : (xs.length + news.length) * bytes ≤ 140737488355328) (hbase : B ≤ w.heap.size)
    (h : ∀ A' c' w', Own w' B e A' c' (xs ++ news) → ((A' = A ∧ c' = c ∧ w.grownBy w' (A.map Addr.block)) ∨ (A' = some ⟨w.heap.size, 0, none⟩ ∧ w.grownBy w' none)) → wpList P ops Q rest (a.put o.dst (.slice A' (xs ++ news).length c')) w') : wpList P ops Q (o :: rest) a w := by
  refine wpList_plain hgd fun K hK => ?_
  subst hn hm
  obtain ⟨v', w', hrun, hg⟩ := run_append_rd (P := P) w t o.type e i z bytes ht hi hz hsize hby hzs B A c xs hown D cc news hr h1 h63 hbytes hbase
  obtain ⟨A', c', rfl, h2, h3⟩ := hg
  unfold Oper.wp execOp
  simp only [ho, resolve, invoke, builtin, Sem.run_bind, Sem.run_pure, Result.andThen_ok, List.map_toArray, List.map_cons, List.map_nil, hs, hx, hrun]
  exact hK _ _ (h A' c' w' h2 h3)

theorem zeroCells_one (z : Value) (hz : z.cells = #[z]) (n : Nat) : Builtin.zeroCells z.cells n = Array.replicate n z := by
  rw [hz]
  apply Array.ext
  · simp [Builtin.zeroCells]
  · intro k h1 h2
    simp [Builtin.zeroCells, Nat.mod_one]

theorem run_append_make (t ti ty e : TypeId) (kd : IntKind) (i : TypeInfo) (z : Value) (bytes : Nat) (ht : P.underlying t = some (.slice e)) (hti : P.underlying ti = some (.int kd)) (hi : P.info? e = some i) (hz : i.zero = some z)
    (hsize : i.size = 1) (hby : i.bytes = bytes) (hzs : z.cells = #[z]) (h1 : z.oneCell' = true) (B : Nat) (A : Option Addr) (c : Nat) (xs : List Value) (hown : Own w B e A c xs)
    (m : Nat) (hm : 0 < m) (h63 : xs.length + m ≤ maxLen) (hbytes : (xs.length + m) * bytes ≤ 140737488355328) (hbase : B ≤ w.heap.size) :
    ∃ v' w', (Builtin.append_ #[t, ti] ty #[.slice A xs.length c, .int .i64 (m : Int)]).run P w = .ok v' w' ∧ Grew w B e A c (xs ++ List.replicate m z) v' w' := by
  have hsmall : xs.length + m ≤ 9223372036854775807 := by simp only [maxLen] at h63; omega
  subst hby
  have hw : IntKind.i64.wrap (m : Int) = m := by rw [IntKind.wrap_i64]; omega
  have hneg : ¬ ((m : Int) < 0) := by omega
  have hmb : ¬ (281474976710656 < (m : Int) * (i.bytes : Int)) := by
    have h : m * i.bytes ≤ (xs.length + m) * i.bytes := Nat.mul_le_mul_right _ (by omega)
    have h' : ((m * i.bytes : Nat) : Int) ≤ 281474976710656 := by omega
    rw [Int.natCast_mul] at h'
    omega
  have hzc := zeroCells_one z hzs
  have hm0 : m ≠ 0 := by omega
  have hmle : ¬ ((m : Int) ≤ 0) := by omega
  have hmax : max (m : Int) 0 = m := by omega
  rcases hown.cases with ⟨rfl, rfl, rfl⟩ | ⟨g, cur, rfl, hB, hg, hh, hle, hmx, hs, htk⟩
  · have hfit := growslice_fits (old := 0) hm (by simpa using hbytes)
    have h48 : ¬ (281474976710656 < Builtin.nextslicecap m 0 * i.bytes) := by omega
    have h63' : ¬ (9223372036854775807 < (m : Int)) := by simp at hsmall; omega
    have hgr := grew_new w (B := B) (e := e) (A := none) (c := 0) z (by rw [hzs]; rfl) [] (List.replicate m z) 0 (by simpa using h63) hbase
    simp only [List.length_nil, Nat.zero_add, List.nil_append, Array.empty_append, List.length_replicate] at hgr
    refine ⟨_, _, ?_, hgr⟩
    simp [Builtin.append_, run_underlying ht, run_underlying hti, sizeOf, typeInfo, zeroValue, hi, hz, hsize, asInt, asIntOf, hw, hneg, hmb, hm0, hmle, hmax, h63', h48, Question.forced, run_firstCells_none, newRow, grownCap, hzc]
  · by_cases hroom : xs.length + m ≤ c
    · have hst := run_storeCells_at P g xs.length e (List.replicate m z) 0 cur w hh (by simp; omega) (fun u hu => by rw [List.mem_replicate] at hu; rw [hu.2]; exact h1)
      simp only [Nat.add_zero] at hst
      refine ⟨.slice (some ⟨g, 0, none⟩) (xs.length + m) c, w.setRow g (cur.toList.take xs.length ++ List.replicate m z ++ cur.toList.drop (xs.length + (List.replicate m z).length)).toArray, ?_, _, _, by rw [List.length_append, List.length_replicate], Own.mk hB (setRow_heap w g cur _ e _ hh) (by rw [List.length_append, List.length_replicate]; exact hroom) hmx ?_ ?_, .inl ⟨rfl, rfl, rfl, rfl, rfl, by simp, fun k _ hk => setRow_other w g k _ (fun e => hk (by simp [e]))⟩⟩
      · simp [Builtin.append_, run_underlying ht, run_underlying hti, sizeOf, typeInfo, zeroValue, hi, hz, hsize, asInt, asIntOf, hw, hneg, hmb, hm0, hmle, hmax, hroom, hzc, Addr.add_lit, hst]
      · simp only [List.size_toArray, List.length_append, List.length_take, List.length_drop, Array.length_toList, List.length_replicate]
        omega
      · rw [htk]
        exact List.take_left
    · have hfit := growslice_fits (need := xs.length + m) (old := c) (by omega) hbytes
      have h48 : ¬ (281474976710656 < Builtin.nextslicecap (xs.length + m) c * i.bytes) := by omega
      have h63' : ¬ (9223372036854775807 < ((xs.length : Int) + (m : Int))) := by omega
      have hgr := grew_new w (B := B) (e := e) (A := some ⟨g, 0, none⟩) (c := c) z (by rw [hzs]; rfl) xs (List.replicate m z) c (by simpa using h63) hbase
      simp only [List.length_replicate] at hgr
      have hfo := run_firstCells_some (P := P) w.drew i.size xs.length ⟨g, 0, none⟩ xs.length c xs (by rw [hsize]; simp) (fun j u hj => by
        obtain ⟨ad', ha, hc⟩ := hown.rd j u hj
        injection ha with ha; subst ha; exact hc)
      rw [hsize] at hfo
      refine ⟨_, _, ?_, hgr⟩
      simp [Builtin.append_, run_underlying ht, run_underlying hti, sizeOf, typeInfo, zeroValue, hi, hz, hsize, asInt, asIntOf, hw, hneg, hmb, hm0, hmle, hmax, hroom, h63', h48, Question.forced, hfo, newRow, grownCap, hzc]

theorem wpList_append_make {ops : Array Oper} {rest : List Oper} {o : Oper} {a : Act} {Q : Exit → Act → World → Prop} (hgd : o.guard = none) (s x : Operand) (t ti : TypeId)
    (ho : o.op = .call { callee := .builtin .append, args := #[s, x], argTypes := #[t, ti] })
    (e : TypeId) (kd : IntKind) (i : TypeInfo) (z : Value) (bytes : Nat) (ht : P.underlying t = some (.slice e)) (hti : P.underlying ti = some (.int kd)) (hi : P.info? e = some i) (hz : i.zero = some z)
    (hsize : i.size = 1) (hby : i.bytes = bytes) (hzs : z.cells = #[z]) (h1 : z.oneCell' = true) (B : Nat) (A : Option Addr) (n c : Nat) (xs : List Value) (hs : a.eval s = .slice A n c) (hn : n = xs.length) (hown : Own w B e A c xs)
    (m : Nat) (hx : a.eval x = .int .i64 (m : Int)) (hm : 0 < m) (h63 : xs.length + m ≤ maxLen) (hbytes : (xs.length + m) * bytes ≤ 140737488355328) (hbase : B ≤ w.heap.size)
    (h : ∀ A' c' w', Own w' B e A' c' (xs ++ List.replicate m z) → Fr (blk A) w w' → (∀ i, blk A' i → blk A i ∨ w.heap.size ≤ i) → wpList P ops Q rest (a.put o.dst (.slice A' (xs ++ List.replicate m z).length c')) w') : wpList P ops Q (o :: rest) a w := by
  refine wpList_plain hgd fun K hK => ?_
  subst hn
  obtain ⟨v', w', hrun, hg⟩ := run_append_make (P := P) w t ti o.type e kd i z bytes ht hti hi hz hsize hby hzs h1 B A c xs hown m hm h63 hbytes hbase
  obtain ⟨A', c', rfl, h2, h3, h4⟩ := hg.parts
  unfold Oper.wp execOp
  simp only [ho, resolve, invoke, builtin, Sem.run_bind, Sem.run_pure, Result.andThen_ok, List.map_toArray, List.map_cons, List.map_nil, hs, hx, hrun]
  exact hK _ _ (h A' c' w' h2 h3 h4)
end
end Go.Proofs.YtigljihohpdpeaaGreatDoor
