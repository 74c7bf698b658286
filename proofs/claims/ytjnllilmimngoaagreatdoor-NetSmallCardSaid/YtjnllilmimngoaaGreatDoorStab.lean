/-
  A region that draws its order is walked once, in one order that its edges allow: operations that only make memory, calls that keep a relation between worlds, and a tail in a forced order.
-/
import Derived.Below
import Derived.Orders
import Derived.Tactics
namespace Go.Proofs.YtjnllilmimngoaaGreatDoor
open Go.RowKit

/-- The world w' is w with new blocks. -/
def Ext (w w' : World) : Prop := Below w.heap.size w w'
theorem Ext.below {w w' : World} (h : Ext w w') : Below w.heap.size w w' := h
theorem Ext.refl (w : World) : Ext w w := Below.refl _ _
theorem Ext.trans {a b c : World} (h : Ext a b) (k : Ext b c) : Ext a c := Below.trans h (Below.mono k h.size)
theorem Ext.alloc {a b : World} (h : Ext a b) (o : Obj) : Ext a (b.alloc o) := Below.alloc h h.size o
theorem Ext.drew {a b : World} (h : Ext a b) : Ext a b.drew := Below.drew h
theorem Ext.set {a b : World} (h : Ext a b) {p : Addr} (hp : a.heap.size ≤ p.block) (u : Value) : Ext a (b.setCell p u) := Below.setCell h hp u
theorem Ext.sz {a b : World} (h : Ext a b) : a.heap.size ≤ b.heap.size := Below.size h

theorem Ext.cell {w w' : World} (h : Ext w w') {p : Addr} {v : Value} (hc : w.cell? p = some v) : w'.cell? p = some v := by
  rw [Below.cell h (World.block_lt_of_cell? w _ hc)]; exact hc
theorem Ext.frozen {w w' : World} (h : Ext w w') {p : Addr} (hp : p.block < w.heap.size) (hc : w.frozen? p = false) : w'.frozen? p = false := by
  rw [Below.frozen h hp]; exact hc

/-- A cell behind a store into it: no condition. -/
theorem cellSet (w : World) (a : Addr) (v : Value) : (w.setCell a v).cell? a = (w.cell? a).map fun _ => v := by
  cases h : w.cell? a with
  | some u => rw [World.cell?_setCell_same w a v h]; rfl
  | none =>
    simp only [Option.map_none]
    unfold World.cell? at h ⊢
    simp only [World.setCell, Array.getElem?_modify, ↓reduceIte]
    cases hb : w.heap[a.block]? with
    | none => rfl
    | some o =>
      rw [hb] at h
      cases o <;> simp_all
attribute [go_sem] cellSet
theorem cell_of_heap {w : World} {b : Nat} {cs : Array Value} {t : TypeId} (h : w.heap[b]? = some (.cells cs t)) (k : Nat) : w.cell? ⟨b, k, none⟩ = cs[k]? := by simp [World.cell?, h]
theorem frozen_of_heap {w : World} {b : Nat} {cs : Array Value} {t : TypeId} (h : w.heap[b]? = some (.cells cs t)) (k : Nat) : w.frozen? ⟨b, k, none⟩ = false := by simp [World.frozen?, h]

/-- What is known of a world, in the place of the world. -/
theorem absW {K : Act → World → Prop} {a : Act} {w : World} (I : World → Prop) (h : I w) (hk : ∀ w', I w' → K a w') : K a w := hk w h

namespace Stab

abbrev Env := Nat → World → Prop
def addE (F : Env) (i : Nat) (p : World → Prop) : Env := fun k w => F k w ∧ (k = i → p w)
/-- Which operations each waits for, through others too: masks, the last operation's first. -/
def maskOf (o : Oper) (j : Nat) (acc : List Nat) : Nat := o.after.toList.foldl (fun s e => if Region.binds .any e && decide (e.on < j) then s ||| (2 ^ e.on ||| acc.getD (j - 1 - e.on) 0) else s) 0
def masksGo : List Oper → Nat → List Nat → List Nat
  | [], _, acc => acc
  | o :: l, j, acc => masksGo l (j + 1) (maskOf o j acc :: acc)
def bef (ops : Array Oper) (j k : Nat) : Bool := decide (j < ops.size) && ((masksGo ops.toList 0 []).getD (ops.size - 1 - j) 0).testBit k
def seen (ops : Array Oper) (j : Nat) (F : Env) (w : World) : Prop := ∀ k, bef ops j k = true → F k w
def isCallB : Op → Bool
  | .call c => (match c.callee with | .builtin .append => true | .builtin _ => false | _ => true)
  | .store .. => true
  | _ => false
def isCallAt (ops : Array Oper) (j : Nat) : Bool := match ops[j]? with | some o => isCallB o.op | none => false

def yieldsUpon (P : Program) (o : Oper) (post : Value → World → Prop) : Result Next → Prop
  | .ok (.value u) w' => post u w'
  | .ok .skip w' => post undef w'
  | .ok (.enter f args) w' => isCallB o.op = true ∧ Calls P f args w' (fun e w'' => match e with | .returned u => post u w'' | _ => False)
  | _ => False
def yields (P : Program) (o : Oper) (a : Act) (w : World) (post : Value → World → Prop) : Prop := yieldsUpon P o post ((execOp a.eval o).run P w)
theorem yieldsUpon_value (P : Program) (o : Oper) (post : Value → World → Prop) (u : Value) (w : World) : yieldsUpon P o post (.ok (.value u) w) = post u w := rfl
theorem yieldsUpon_skip (P : Program) (o : Oper) (post : Value → World → Prop) (w : World) : yieldsUpon P o post (.ok .skip w) = post undef w := rfl
theorem yieldsUpon_enter (P : Program) (o : Oper) (post : Value → World → Prop) (f : FuncId) (args : Array Value) (w : World) : yieldsUpon P o post (.ok (.enter f args) w) = (isCallB o.op = true ∧ Calls P f args w (fun e w'' => match e with | .returned u => post u w'' | _ => False)) := rfl
attribute [go_sem] yieldsUpon_value yieldsUpon_skip yieldsUpon_enter yields

theorem yields_mono {P : Program} {o : Oper} {a : Act} {w : World} {p q : Value → World → Prop} (h : yields P o a w p) (hpq : ∀ u w', p u w' → q u w') : yields P o a w q := by
  unfold yields yieldsUpon at *
  generalize (execOp a.eval o).run P w = r at *
  cases r with
  | ok n w' =>
    cases n <;> simp only at h ⊢
    case value u => exact hpq _ _ h
    case skip => exact hpq _ _ h
    case enter f args =>
      refine ⟨h.1, h.2.mono fun e w'' he => ?_⟩
      cases e with
      | returned u => exact hpq _ _ he
      | panicked c => exact he
      | outgrown => exact he
  | halt x w' => exact h

theorem yields_exists {P : Program} {o : Oper} {a : Act} {w : World} {p : Value → World → Prop} (h : yields P o a w p) : ∃ u w', p u w' := by
  unfold yields yieldsUpon at h
  generalize (execOp a.eval o).run P w = r at *
  cases r with
  | ok n w' =>
    cases n <;> simp only at h
    case value u => exact ⟨_, _, h⟩
    case skip => exact ⟨_, _, h⟩
    case enter f args =>
      obtain ⟨e, w'', _, hR, _⟩ := h.2 []
      cases e with
      | returned u => exact ⟨_, _, hR⟩
      | panicked c => exact hR.elim
      | outgrown => exact hR.elim
  | halt x w' => exact h.elim

theorem yields_all {P : Program} {o : Oper} {a : Act} {w : World} {I : Type} [hI : Nonempty I] {p : I → Value → World → Prop} (hn : isCallB o.op = false) (h : ∀ i, yields P o a w (p i)) : yields P o a w (fun u w' => ∀ i, p i u w') := by
  unfold yields yieldsUpon at *
  generalize (execOp a.eval o).run P w = r at *
  obtain ⟨i0⟩ := hI
  cases r with
  | ok n w' =>
    cases n <;> simp only at h ⊢
    case value u => exact h
    case skip => exact h
    case enter f args => have := (h i0).1; rw [hn] at this; cases this
    all_goals exact h i0
  | halt x w' => exact h i0

theorem wp_of_yields {P : Program} {o : Oper} {a : Act} {w : World} {p : Value → World → Prop} {K : Act → World → Prop} {Q : Exit → Act → World → Prop} (h : yields P o a w p) (hK : ∀ u w', p u w' → K (a.put o.dst u) w') : o.wp P a w K Q := by
  unfold yields yieldsUpon at h
  unfold Oper.wp
  generalize (execOp a.eval o).run P w = r at *
  cases r with
  | ok n w' =>
    cases n <;> simp only at h <;> simp only [Oper.upon]
    case value u => exact hK _ _ h
    case skip => exact hK _ _ h
    case enter f args =>
      refine h.2.mono fun e w'' he => ?_
      cases e with
      | returned u => exact hK _ _ he
      | panicked c => exact he.elim
      | outgrown => exact he.elim
  | halt x w' => exact h.elim

theorem yields_put {P : Program} {ops : Array Oper} {o : Oper} (hs : ∀ cs b, o.op ≠ .select cs b) (a : Act) (dst : Option Tmp) (v : Value) (hl : ∀ d, dst = some d → d ∉ o.looksAt ops) (w : World) (p : Value → World → Prop) : yields P o (a.put dst v) w p = yields P o a w p := by
  unfold yields
  rw [execOp_put o hs a dst v hl]

section
variable (P : Program) (ops : Array Oper) (C : World → Prop) (Le : World → World → Prop)

def Up (Le : World → World → Prop) (p : World → Prop) : Prop := ∀ w w', p w → Le w w' → p w'

/-- One value, whatever the world. -/
def validS (i : Nat) (o : Oper) (F : Env) (a : Act) (v : Value) : Prop :=
  (Region.wanted o (yielded ops a.tmps) = false ∧ v = undef) ∨
  (Region.wanted o (yielded ops a.tmps) = true ∧ isCallB o.op = false ∧ ∀ w, C w → seen ops i F w → yields P o a w (fun u w' => Ext w w' ∧ u = v))

/-- A value of which something is known. -/
def validM (i : Nat) (o : Oper) (T : World → Prop) (F : Env) (a : Act) (R : Value → World → Prop) (T' : Value → World → Prop) : Prop :=
  Region.wanted o (yielded ops a.tmps) = true ∧ (∀ u, Up Le (R u)) ∧ (∀ u, Up Ext (T' u)) ∧
  ((isCallB o.op = false ∧ (T' = fun _ => T) ∧ ∀ w, C w → seen ops i F w → yields P o a w (fun u w' => Ext w w' ∧ R u w')) ∨
   (isCallB o.op = true ∧ ∀ w, C w → T w → seen ops i F w → yields P o a w (fun u w' => Le w w' ∧ R u w' ∧ T' u w')))

def real (F : Env) (R : Value → World → Prop) (T' : Value → World → Prop) (u : Value) : Prop := ∃ w, C w ∧ R u w ∧ T' u w ∧ ∀ k, F k w

def sOp (i : Nat) (T : World → Prop) (F : Env) (K : (World → Prop) → Env → Act → Prop) (a : Act) : Prop :=
  ∃ o, ops[i]? = some o ∧
    ((∃ v, validS P ops C i o F a v ∧ K T F (a.put o.dst v)) ∨
     (∃ R T', validM P ops C Le i o T F a R T' ∧ ∀ u, real C F R T' u → K (T' u) (addE F i (R u)) (a.put o.dst u)))

/-- The walk in a given order; a value of which something is known wants that every call that is still to come waits for it. -/
def wpS (Q : Act → World → Prop) : List Nat → (World → Prop) → Env → Act → Prop
  | [], T, F, a => ∀ w, C w → T w → (∀ k, F k w) → Q a w
  | i :: rest, T, F, a => ∃ o, ops[i]? = some o ∧
    ((∃ v, validS P ops C i o F a v ∧ wpS Q rest T F (a.put o.dst v)) ∨
     ((isCallB o.op = true ∨ (rest.all fun j => !isCallAt ops j || bef ops j i) = true) ∧
      ∃ R T', validM P ops C Le i o T F a R T' ∧ ∀ u, real C F R T' u → wpS Q rest (T' u) (addE F i (R u)) (a.put o.dst u)))

def wpAnyS (n : Nat) (L : Array Bool → Act → World → Prop) : Nat → Array Bool → (World → Prop) → Env → Act → Prop
  | 0, listed, T, F, a => (∀ j ∈ Region.ready .any ops listed, n ≤ j) ∧ ∀ w, C w → T w → (∀ k, F k w) → L listed a w
  | fuel + 1, listed, T, F, a => Region.ready .any ops listed ≠ [] ∧ ∀ i ∈ Region.ready .any ops listed, i < n ∧ sOp P ops C Le i T F (wpAnyS n L fuel (listed.setIfInBounds i true)) a
end

section
variable {P : Program} {ops : Array Oper} {C : World → Prop} {Le : World → World → Prop}

theorem seen_far {i j : Nat} {F : Env} {p : World → Prop} {w : World} (hb : bef ops i j = false) (h : seen ops i F w) : seen ops i (addE F j p) w :=
  fun k hk => ⟨h k hk, fun e => by subst e; rw [hb] at hk; cases hk⟩

theorem sOp_mono {i : Nat} {T : World → Prop} {F F' : Env} {K K' : (World → Prop) → Env → Act → Prop} {a : Act} (hF : ∀ k w, F' k w → F k w)
    (hK : ∀ T G G' a, (∀ k w, G' k w → G k w) → K T G a → K' T G' a) (h : sOp P ops C Le i T F K a) : sOp P ops C Le i T F' K' a := by
  have hs : ∀ w, seen ops i F' w → seen ops i F w := fun w hw k hk => hF _ _ (hw k hk)
  obtain ⟨o, ho, h⟩ := h
  refine ⟨o, ho, ?_⟩
  rcases h with ⟨v, hv, hk⟩ | ⟨R, T', ⟨hw, hu1, hu2, hy⟩, hk⟩
  · refine .inl ⟨v, ?_, hK _ _ _ _ hF hk⟩
    rcases hv with hv | ⟨h1, h2, h3⟩
    · exact .inl hv
    · exact .inr ⟨h1, h2, fun w hc hs' => h3 w hc (hs w hs')⟩
  · refine .inr ⟨R, T', ⟨hw, hu1, hu2, ?_⟩, fun u hu => hK _ _ _ _ (fun k w h => ⟨hF _ _ h.1, h.2⟩) (hk u ?_)⟩
    · rcases hy with ⟨h1, h2, h3⟩ | ⟨h1, h2⟩
      · exact .inl ⟨h1, h2, fun w hc hs' => h3 w hc (hs w hs')⟩
      · exact .inr ⟨h1, fun w hc ht hs' => h2 w hc ht (hs w hs')⟩
    · obtain ⟨w, h1, h2, h3, h4⟩ := hu
      exact ⟨w, h1, h2, h3, fun k => hF _ _ (h4 k)⟩

theorem wpAnyS_mono {n : Nat} {L : Array Bool → Act → World → Prop} : ∀ (fuel : Nat) (listed : Array Bool) (T : World → Prop) (F F' : Env) (a : Act), (∀ k w, F' k w → F k w) →
    wpAnyS P ops C Le n L fuel listed T F a → wpAnyS P ops C Le n L fuel listed T F' a
  | 0, _, _, _, _, _, hF, h => ⟨h.1, fun w hc ht hf => h.2 w hc ht fun k => hF _ _ (hf k)⟩
  | fuel + 1, _, _, _, _, _, hF, h => ⟨h.1, fun i hi => ⟨(h.2 i hi).1, sOp_mono hF (fun T G G' a hG hk => wpAnyS_mono fuel _ T G G' a hG hk) (h.2 i hi).2⟩⟩

def closed (ops : Array Oper) (listed : Array Bool) : Prop := listed.size = ops.size ∧ ∀ j oj, ops[j]? = some oj → listed.getD j false = true → ∀ e ∈ oj.after, Region.binds .any e = true → listed.getD e.on false = true

theorem maskOf_bit (o : Oper) (j : Nat) (acc : List Nat) (k : Nat) (h : (maskOf o j acc).testBit k = true) : ∃ e ∈ o.after, Region.binds .any e = true ∧ e.on < j ∧ (e.on = k ∨ (acc.getD (j - 1 - e.on) 0).testBit k = true) := by
  have key : ∀ (l : List Edge) (s : Nat), (l.foldl (fun s e => if Region.binds .any e && decide (e.on < j) then s ||| (2 ^ e.on ||| acc.getD (j - 1 - e.on) 0) else s) s).testBit k = true →
      s.testBit k = true ∨ ∃ e ∈ l, Region.binds .any e = true ∧ e.on < j ∧ (e.on = k ∨ (acc.getD (j - 1 - e.on) 0).testBit k = true) := by
    intro l
    induction l with
    | nil => intro s h; exact .inl h
    | cons e l ih =>
      intro s h
      rw [List.foldl_cons] at h
      rcases ih _ h with h1 | ⟨e', he', h2⟩
      · split at h1
        · rename_i hc
          simp only [Bool.and_eq_true, decide_eq_true_eq] at hc
          simp only [Nat.testBit_or, Bool.or_eq_true, Nat.testBit_two_pow, decide_eq_true_eq] at h1
          rcases h1 with h1 | h1 | h1
          · exact .inl h1
          · exact .inr ⟨e, by simp, hc.1, hc.2, .inl h1⟩
          · exact .inr ⟨e, by simp, hc.1, hc.2, .inr h1⟩
        · exact .inl h1
      · exact .inr ⟨e', by simp [he'], h2⟩
  rcases key _ _ h with h1 | ⟨e, he, h2⟩
  · simp at h1
  · exact ⟨e, by simpa using he, h2⟩

theorem masksGo_drop : ∀ (l : List Oper) (j : Nat) (acc : List Nat), acc.length = j → (masksGo l j acc).length = j + l.length ∧ (masksGo l j acc).drop l.length = acc ∧
    ∀ i o, l[i]? = some o → (masksGo l j acc)[l.length - 1 - i]? = some (maskOf o (j + i) ((masksGo l j acc).drop (l.length - i)))
  | [], j, acc, h => ⟨by simp [masksGo, h], by simp [masksGo], fun i o hi => by simp at hi⟩
  | o :: l, j, acc, h => by
    obtain ⟨h1, h2, h3⟩ := masksGo_drop l (j + 1) (maskOf o j acc :: acc) (by simp [h])
    refine ⟨by simp only [masksGo, h1, List.length_cons]; omega, ?_, fun i x hi => ?_⟩
    · simp only [masksGo, List.length_cons]
      rw [← List.drop_drop, h2]; rfl
    · simp only [masksGo, List.length_cons]
      cases i with
      | zero =>
        simp at hi
        subst hi
        have h4 : (masksGo l (j + 1) (maskOf o j acc :: acc))[l.length]? = some (maskOf o j acc) := by
          have := congrArg (fun x => x[0]?) h2
          simpa using this
        rw [show l.length + 1 - 1 - 0 = l.length by omega, h4]
        rw [show l.length + 1 - 0 = l.length + 1 by omega, ← List.drop_drop, h2]; rfl
      | succ i =>
        have := h3 i x (by simpa using hi)
        have hi' : i < l.length := (List.getElem?_eq_some_iff.1 (by simpa using hi : l[i]? = some x)).1
        rw [show l.length + 1 - 1 - (i + 1) = l.length - 1 - i by omega, this, show j + 1 + i = j + (i + 1) by omega, show l.length + 1 - (i + 1) = l.length - i by omega]

theorem bef_edge {j k : Nat} (h : bef ops j k = true) : ∃ oj, ops[j]? = some oj ∧ ∃ e ∈ oj.after, Region.binds .any e = true ∧ e.on < j ∧ (e.on = k ∨ bef ops e.on k = true) := by
  simp only [bef, Bool.and_eq_true, decide_eq_true_eq] at h
  obtain ⟨hj, hb⟩ := h
  obtain ⟨h1, _, h3⟩ := masksGo_drop ops.toList 0 [] rfl
  simp only [Nat.zero_add, Array.length_toList] at h1 h3
  have ho : ops.toList[j]? = some ops[j] := by simp [hj]
  have h4 := h3 j _ ho
  have h5 : (masksGo ops.toList 0 []).getD (ops.size - 1 - j) 0 = maskOf ops[j] j ((masksGo ops.toList 0 []).drop (ops.size - j)) := by simp [List.getD, h4]
  rw [h5] at hb
  obtain ⟨e, he, hbi, hlt, hk⟩ := maskOf_bit _ _ _ _ hb
  refine ⟨ops[j], by simp [hj], e, he, hbi, hlt, ?_⟩
  rcases hk with hk | hk
  · exact .inl hk
  · refine .inr ?_
    simp only [bef, Bool.and_eq_true, decide_eq_true_eq]
    refine ⟨by omega, ?_⟩
    rw [show (masksGo ops.toList 0 []).getD (ops.size - 1 - e.on) 0 = ((masksGo ops.toList 0 []).drop (ops.size - j)).getD (j - 1 - e.on) 0 by
      simp only [List.getD, List.getElem?_drop]; congr 2; omega]
    exact hk

theorem bef_listed {listed : Array Bool} (hc : closed ops listed) : ∀ (m j : Nat), j ≤ m → ∀ oj, ops[j]? = some oj → (∀ e ∈ oj.after, Region.binds .any e = true → listed.getD e.on false = true) →
    ∀ k, bef ops j k = true → listed.getD k false = true := by
  intro m
  induction m with
  | zero =>
    intro j hj oj hoj hall k hk
    obtain ⟨o', ho', e, he, hb, hlt, _⟩ := bef_edge hk
    omega
  | succ m ih =>
    intro j hj oj hoj hall k hk
    obtain ⟨o', ho', e, he, hb, hlt, h2⟩ := bef_edge hk
    have : o' = oj := Option.some.inj (ho'.symm.trans hoj)
    subst this
    have hel := hall e he hb
    rcases h2 with h3 | h4
    · rw [← h3]; exact hel
    · obtain ⟨oe, hoe, _⟩ := bef_edge h4
      exact ih e.on (by omega) oe hoe (fun e' he' hb' => hc.2 e.on oe hoe hel e' he' hb') k h4

theorem getD_both {listed : Array Bool} {i : Nat} (h : listed.getD i true = false) : listed.getD i false = false := by
  rcases Nat.lt_or_ge i listed.size with h' | h'
  · simp [h'] at h ⊢; exact h
  · simp [Array.getElem?_eq_none h'] at h

theorem bef_ready {listed : Array Bool} (hc : closed ops listed) {i j : Nat} (hj : j ∈ Region.ready .any ops listed) (hi : listed.getD i true = false) : bef ops j i = false := by
  obtain ⟨_, oj, hoj, hall⟩ := mem_ready.1 hj
  cases h : bef ops j i with
  | false => rfl
  | true =>
    have := bef_listed hc j j (Nat.le_refl _) oj hoj hall i h
    rw [getD_both hi] at this; cases this

theorem closed_set {listed : Array Bool} {i : Nat} (hc : closed ops listed) (hi : i ∈ Region.ready .any ops listed) : closed ops (listed.setIfInBounds i true) := by
  obtain ⟨_, oi, hoi, hall⟩ := mem_ready.1 hi
  refine ⟨by simp [hc.1], fun j oj hj hl e he hb => ?_⟩
  by_cases hij : i = j
  · subst hij
    have : oj = oi := Option.some.inj (hj.symm.trans hoi)
    subst this
    exact getD_set_true (hall e he hb)
  · rw [getD_set_ne false hij] at hl
    exact getD_set_true (hc.2 j oj hj hl e he hb)

/-- An operation that is wanted and is no call, as a value of which something is known. -/
theorem sOp_multi {i : Nat} {T : World → Prop} {F : Env} {K : (World → Prop) → Env → Act → Prop} {a : Act} {o : Oper} (ho : ops[i]? = some o) (hw : Region.wanted o (yielded ops a.tmps) = true) (hn : isCallB o.op = false)
    (hKm : ∀ T G G' a, (∀ k w, G' k w → G k w) → K T G a → K T G' a) (h : sOp P ops C Le i T F K a) :
    ∃ R : Value → World → Prop, (∀ u, Up Le (R u)) ∧ (∀ w, C w → seen ops i F w → yields P o a w (fun u w' => Ext w w' ∧ R u w')) ∧ ∀ u, real C F R (fun _ => T) u → K T (addE F i (R u)) (a.put o.dst u) := by
  obtain ⟨o', ho', h⟩ := h
  have : o' = o := Option.some.inj (ho'.symm.trans ho)
  subst this
  rcases h with ⟨v, hv, hk⟩ | ⟨R, T', ⟨_, hu1, _, hy⟩, hk⟩
  · rcases hv with ⟨hv, _⟩ | ⟨_, _, h3⟩
    · rw [hw] at hv; cases hv
    · exact ⟨fun u _ => u = v, fun u w w' h _ => h, h3, fun u ⟨w, _, hu, _⟩ => by rw [hu]; exact hKm _ _ _ _ (fun _ _ h => h.1) hk⟩
  · rcases hy with ⟨_, h2, h3⟩ | ⟨h1, _⟩
    · subst h2; exact ⟨R, hu1, h3, hk⟩
    · rw [hn] at h1; cases h1

/-- The operation 'i', which has a single value, is put behind 'j'. -/
theorem sOp_putS {j : Nat} {oi oj : Oper} {v : Value} (hj : ops[j]? = some oj) (hap : oi.apart ops oj = true) (hsj : ∀ cs b, oj.op ≠ .select cs b)
    {T : World → Prop} {F : Env} {K K' : (World → Prop) → Env → Act → Prop} {a : Act}
    (hK : ∀ T' p u, Up Ext T' → Up Le p → (∃ w, C w ∧ p w ∧ T' w ∧ ∀ k, F k w) → K T' (addE F j p) ((a.put oi.dst v).put oj.dst u) → K' T' (addE F j p) (a.put oj.dst u))
    (hK0 : ∀ u, K T F ((a.put oi.dst v).put oj.dst u) → K' T F (a.put oj.dst u))
    (h : sOp P ops C Le j T F K (a.put oi.dst v)) : sOp P ops C Le j T F K' a := by
  obtain ⟨h1, _, _⟩ := Oper.apart_spec hap
  obtain ⟨o', ho', h⟩ := h
  have : o' = oj := Option.some.inj (ho'.symm.trans hj)
  subst this
  refine ⟨o', ho', ?_⟩
  have hw := wanted_put o' a oi.dst v h1
  rcases h with ⟨u, hu, hk⟩ | ⟨R, T', ⟨hw1, hu1, hu2, hy⟩, hk⟩
  · refine .inl ⟨u, ?_, hK0 u hk⟩
    rcases hu with ⟨h2, h3⟩ | ⟨h2, h3, h4⟩
    · exact .inl ⟨by rw [← hw]; exact h2, h3⟩
    · exact .inr ⟨by rw [← hw]; exact h2, h3, fun w hc hs => by rw [← yields_put hsj a oi.dst v h1]; exact h4 w hc hs⟩
  · refine .inr ⟨R, T', ⟨by rw [← hw]; exact hw1, hu1, hu2, ?_⟩, fun u hu => hK _ _ _ (hu2 u) (hu1 u) ?_ (hk u hu)⟩
    · rcases hy with ⟨h2, h3, h4⟩ | ⟨h2, h4⟩
      · exact .inl ⟨h2, h3, fun w hc hs => by rw [← yields_put hsj a oi.dst v h1]; exact h4 w hc hs⟩
      · exact .inr ⟨h2, fun w hc ht hs => by rw [← yields_put hsj a oi.dst v h1]; exact h4 w hc ht hs⟩
    · obtain ⟨w, a1, a2, a3, a4⟩ := hu
      exact ⟨w, a1, a2, a3, a4⟩

theorem validS_put {i : Nat} {oi oj : Oper} {v u : Value} {F : Env} {a : Act} (hsi : ∀ cs b, oi.op ≠ .select cs b) (hl : ∀ d, oj.dst = some d → d ∉ oi.looksAt ops) {F' : Env} (hF : ∀ k w, F' k w → F k w) (h : validS P ops C i oi F a v) : validS P ops C i oi F' (a.put oj.dst u) v := by
  have hw := wanted_put oi a oj.dst u hl
  rcases h with ⟨h2, h3⟩ | ⟨h2, h3, h4⟩
  · exact .inl ⟨by rw [hw]; exact h2, h3⟩
  · exact .inr ⟨by rw [hw]; exact h2, h3, fun w hc hs => by rw [yields_put hsi a oj.dst u hl]; exact h4 w hc (fun k hk => hF _ _ (hs k hk))⟩

theorem validM_put {i : Nat} {oi oj : Oper} {u : Value} {T : World → Prop} {F : Env} {a : Act} {R T' : Value → World → Prop} (hsi : ∀ cs b, oi.op ≠ .select cs b) (hl : ∀ d, oj.dst = some d → d ∉ oi.looksAt ops) {F' : Env} (hF : ∀ k w, F' k w → F k w) (h : validM P ops C Le i oi T F a R T') : validM P ops C Le i oi T F' (a.put oj.dst u) R T' := by
  have hw := wanted_put oi a oj.dst u hl
  obtain ⟨h1, h2, h3, h4⟩ := h
  refine ⟨by rw [hw]; exact h1, h2, h3, ?_⟩
  rcases h4 with ⟨h4, h5, h6⟩ | ⟨h4, h6⟩
  · exact .inl ⟨h4, h5, fun w hc hs => by rw [yields_put hsi a oj.dst u hl]; exact h6 w hc (fun k hk => hF _ _ (hs k hk))⟩
  · exact .inr ⟨h4, fun w hc ht hs => by rw [yields_put hsi a oj.dst u hl]; exact h6 w hc ht (fun k hk => hF _ _ (hs k hk))⟩

theorem real_some {i : Nat} {oi : Oper} {T : World → Prop} {F : Env} {a : Act} {R T' : Value → World → Prop} (hLe : ∀ w w', Ext w w' → Le w w') (hC : Up Le C) (hT : Up Ext T) (hF : ∀ k, Up Le (F k)) (hcons : ∃ w, C w ∧ T w ∧ ∀ k, F k w)
    (h : validM P ops C Le i oi T F a R T') : ∃ u, real C F R T' u := by
  obtain ⟨w, hc, ht, hf⟩ := hcons
  obtain ⟨_, _, _, h4⟩ := h
  rcases h4 with ⟨_, h5, h6⟩ | ⟨_, h6⟩
  · obtain ⟨u, w', he, hr⟩ := yields_exists (h6 w hc (fun k _ => hf k))
    subst h5
    exact ⟨u, w', hC _ _ hc (hLe _ _ he), hr, hT _ _ ht he, fun k => hF k _ _ (hf k) (hLe _ _ he)⟩
  · obtain ⟨u, w', he, hr, ht'⟩ := yields_exists (h6 w hc ht (fun k _ => hf k))
    exact ⟨u, w', hC _ _ hc he, hr, ht', fun k => hF k _ _ (hf k) he⟩

theorem up_add {F : Env} {i : Nat} {p : World → Prop} (hF : ∀ k, Up Le (F k)) (hp : Up Le p) : ∀ k, Up Le (addE F i p k) := fun k w w' h hle => ⟨hF k w w' h.1 hle, fun e => hp w w' (h.2 e) hle⟩

theorem firstS {n i : Nat} {oi : Oper} {L : Array Bool → Act → World → Prop} (hi : ops[i]? = some oi) (hin : i < n) (hsel : ∀ (j : Nat) (o : Oper) cs b, ops[j]? = some o → o.op ≠ .select cs b)
    (htail : ∀ t, n ≤ t → t < ops.size → ∀ k, k < n → bef ops t k = true)
    (hLe : ∀ w w', Ext w w' → Le w w') (hC : Up Le C) :
    ∀ (fuel : Nat) (listed : Array Bool) (T : World → Prop) (F : Env) (a : Act), closed ops listed →
      (∀ j oj, ops[j]? = some oj → j ≠ i → listed.getD j true = false → (∀ e ∈ oj.after, Region.binds .any e = true → e.on ≠ i) → oi.apart ops oj = true) →
      i ∈ Region.ready .any ops listed → (∃ w, C w ∧ T w ∧ ∀ k, F k w) → Up Ext T → (∀ k, Up Le (F k)) →
      ((∃ v, validS P ops C i oi F a v ∧ wpAnyS P ops C Le n L fuel (listed.setIfInBounds i true) T F (a.put oi.dst v)) ∨
       ((∀ j, listed.getD j true = false → j ≠ i → isCallAt ops j = true → bef ops j i = true) ∧
        ∃ R T', validM P ops C Le i oi T F a R T' ∧ ∀ u, real C F R T' u → wpAnyS P ops C Le n L fuel (listed.setIfInBounds i true) (T' u) (addE F i (R u)) (a.put oi.dst u))) →
      wpAnyS P ops C Le n L (fuel + 1) listed T F a := by
  intro fuel
  induction fuel with
  | zero =>
    intro listed T F a hcl _ hr hcons hT hF H
    have hun := (mem_ready.1 hr).1
    refine ⟨fun h => (by rw [h] at hr; cases hr), fun j hj => ?_⟩
    have hjn : j < n := by
      rcases Nat.lt_or_ge j n with h | h
      · exact h
      · obtain ⟨_, oj, hoj, _⟩ := mem_ready.1 hj
        have h1 := htail j h (Array.getElem?_eq_some_iff.1 hoj).1 i hin
        rw [bef_ready hcl hj hun] at h1; cases h1
    refine ⟨hjn, ?_⟩
    by_cases hji : j = i
    · subst hji
      refine ⟨oi, hi, ?_⟩
      rcases H with ⟨v, h1, h2⟩ | ⟨_, R, T', h1, h2⟩
      · exact .inl ⟨v, h1, h2⟩
      · exact .inr ⟨R, T', h1, h2⟩
    · exfalso
      have h3 := ready_mono hj hji
      rcases H with ⟨v, h1, h2⟩ | ⟨_, R, T', h1, h2⟩
      · have := h2.1 j h3; omega
      · obtain ⟨u, hu⟩ := real_some hLe hC hT hF hcons h1
        have := (h2 u hu).1 j h3; omega
  | succ fuel ih =>
    intro listed T F a hcl hfree hr hcons hT hF H
    have hun := (mem_ready.1 hr).1
    refine ⟨fun h => (by rw [h] at hr; cases hr), fun j hj => ?_⟩
    have hjn : j < n := by
      rcases Nat.lt_or_ge j n with h | h
      · exact h
      · obtain ⟨_, oj, hoj, _⟩ := mem_ready.1 hj
        have h1 := htail j h (Array.getElem?_eq_some_iff.1 hoj).1 i hin
        rw [bef_ready hcl hj hun] at h1; cases h1
    refine ⟨hjn, ?_⟩
    by_cases hji : j = i
    · subst hji
      refine ⟨oi, hi, ?_⟩
      rcases H with ⟨v, h1, h2⟩ | ⟨_, R, T', h1, h2⟩
      · exact .inl ⟨v, h1, h2⟩
      · exact .inr ⟨R, T', h1, h2⟩
    · obtain ⟨hjun, oj, hoj, hall⟩ := mem_ready.1 hj
      have hnot : ∀ e ∈ oj.after, Region.binds .any e = true → e.on ≠ i := fun e he hb' heq => by
        have h1 := hall e he hb'
        rw [heq, getD_both hun] at h1
        cases h1
      have hap := hfree j oj hoj hji hjun hnot
      obtain ⟨ap1, ap2, ap3⟩ := Oper.apart_spec hap
      have hsi := fun cs b => hsel i oi cs b hi
      have hsj := fun cs b => hsel j oj cs b hoj
      have hfree' : ∀ k ok, ops[k]? = some ok → k ≠ i → (listed.setIfInBounds j true).getD k true = false →
          (∀ e ∈ ok.after, Region.binds .any e = true → e.on ≠ i) → oi.apart ops ok = true := fun k ok hk hki hun' hno => by
        refine hfree k ok hk hki ?_ hno
        by_cases hjk : j = k
        · subst hjk; exact hjun
        · rw [getD_set_ne true hjk] at hun'; exact hun'
      have hcl' := closed_set hcl hj
      have hr' := ready_mono hr (Ne.symm hji)
      have hcomm := Array.setIfInBounds_comm true true (xs := listed) hji
      rcases H with ⟨v, hv, H⟩ | ⟨hst, R, T', hM, H⟩
      · have h1 := (H.2 j (ready_mono hj hji)).2
        refine sOp_putS hoj hap hsj (fun T' p u hT' hp hc hk => ?_) (fun u hk => ?_) h1
        · refine ih _ T' (addE F j p) (a.put oj.dst u) hcl' hfree' hr' ?_ hT' (up_add hF hp) (.inl ⟨v, validS_put hsi ap3 (fun _ _ h => h.1) hv, ?_⟩)
          · obtain ⟨w, c1, c2, c3, c4⟩ := hc
            exact ⟨w, c1, c3, fun k => ⟨c4 k, fun _ => c2⟩⟩
          · rw [hcomm, ← Act.put_comm a v u ap2]; exact hk
        · refine ih _ T F (a.put oj.dst u) hcl' hfree' hr' hcons hT hF (.inl ⟨v, validS_put hsi ap3 (fun _ _ h => h) hv, ?_⟩)
          rw [hcomm, ← Act.put_comm a v u ap2]; exact hk
      · have hnc : isCallB oj.op = false := by
          cases hcb : isCallB oj.op with
          | false => rfl
          | true =>
            have h2 := hst j hjun hji (by unfold isCallAt; rw [hoj]; exact hcb)
            rw [bef_ready hcl hj hun] at h2; cases h2
        have hst' : ∀ k, (listed.setIfInBounds j true).getD k true = false → k ≠ i → isCallAt ops k = true → bef ops k i = true := fun k hk hki hck => by
          refine hst k ?_ hki hck
          by_cases hjk : j = k
          · subst hjk; exact hjun
          · rw [getD_set_ne true hjk] at hk; exact hk
        obtain ⟨u0, hu0⟩ := real_some hLe hC hT hF hcons hM
        cases hwj : Region.wanted oj (yielded ops a.tmps) with
        | false =>
          refine ⟨oj, hoj, .inl ⟨undef, .inl ⟨hwj, rfl⟩, ?_⟩⟩
          refine ih _ T F (a.put oj.dst undef) hcl' hfree' hr' hcons hT hF (.inr ⟨hst', R, T', validM_put hsi ap3 (fun _ _ h => h) hM, fun u hu => ?_⟩)
          obtain ⟨o', ho', h⟩ := ((H u hu).2 j (ready_mono hj hji)).2
          have : o' = oj := Option.some.inj (ho'.symm.trans hoj)
          subst this
          have hw := wanted_put o' a oi.dst u ap1
          rcases h with ⟨x, hx, hk⟩ | ⟨_, _, ⟨hx, _⟩, _⟩
          · rcases hx with ⟨_, hx⟩ | ⟨hx, _⟩
            · subst hx
              rw [hcomm, ← Act.put_comm a u undef ap2]; exact hk
            · rw [hw, hwj] at hx; cases hx
          · rw [hw, hwj] at hx; cases hx
        | true =>
          have hall2 : ∀ x : { u // real C F R T' u }, ∃ q : Value → World → Prop, (∀ u, Up Le (q u)) ∧ (∀ w, C w → seen ops j (addE F i (R x.1)) w → yields P oj (a.put oi.dst x.1) w (fun u w' => Ext w w' ∧ q u w')) ∧
              ∀ u, real C (addE F i (R x.1)) q (fun _ => T' x.1) u → wpAnyS P ops C Le n L fuel ((listed.setIfInBounds i true).setIfInBounds j true) (T' x.1) (addE (addE F i (R x.1)) j (q u)) ((a.put oi.dst x.1).put oj.dst u) := fun x =>
            sOp_multi hoj (by rw [wanted_put oj a oi.dst x.1 ap1]; exact hwj) hnc (fun T G G' a hG hk => wpAnyS_mono _ _ T G G' a hG hk) ((H x.1 x.2).2 j (ready_mono hj hji)).2
          obtain ⟨q, hq⟩ := Classical.axiomOfChoice hall2
          have hne : Nonempty { u // real C F R T' u } := ⟨⟨u0, hu0⟩⟩
          have hbf := bef_ready hcl hj hun
          refine ⟨oj, hoj, .inr ⟨fun u w => ∀ x, q x u w, fun _ => T, ⟨hwj, fun u w w' h hle x => (hq x).1 u w w' (h x) hle, fun _ => hT, .inl ⟨hnc, rfl, fun w hc hs => ?_⟩⟩, fun u hu => ?_⟩⟩
          · have h5 := yields_all (I := { u // real C F R T' u }) (p := fun x u w' => Ext w w' ∧ q x u w') hnc (fun x => by
              have := (hq x).2.1 w hc (seen_far hbf hs)
              rw [yields_put hsj a oi.dst x.1 ap1] at this
              exact this)
            exact yields_mono h5 fun u w' h => ⟨(h ⟨u0, hu0⟩).1, fun x => (h x).2⟩
          · refine ih _ T (addE F j (fun w => ∀ x, q x u w)) (a.put oj.dst u) hcl' hfree' hr' ?_ hT (up_add hF (fun w w' h hle x => (hq x).1 u w w' (h x) hle)) (.inr ⟨hst', R, T', validM_put hsi ap3 (fun _ _ h => h.1) hM, fun v hv => ?_⟩)
            · obtain ⟨w, c1, c2, c3, c4⟩ := hu
              exact ⟨w, c1, c3, fun k => ⟨c4 k, fun _ => c2⟩⟩
            · obtain ⟨w, c1, c2, c3, c4⟩ := hv
              have hv' : real C F R T' v := ⟨w, c1, c2, c3, fun k => (c4 k).1⟩
              have hk := (hq ⟨v, hv'⟩).2.2 u ⟨w, c1, (c4 j).2 rfl ⟨v, hv'⟩, c3, fun k => ⟨(c4 k).1, fun _ => c2⟩⟩
              rw [hcomm, ← Act.put_comm a v u ap2]
              refine wpAnyS_mono _ _ _ _ _ _ (fun k w h => ?_) hk
              exact ⟨⟨h.1.1, h.2⟩, fun e => h.1.2 e ⟨v, hv'⟩⟩

theorem wpAny_of_S {n g : Nat} {L : Array Bool → Act → World → Prop} {Q' : Exit → Act → World → Prop} (hL : ∀ listed a w, L listed a w → wpAny P .any ops Q' g listed a w) (hLe : ∀ w w', Ext w w' → Le w w') (hC : Up Le C) :
    ∀ (fuel : Nat) (listed : Array Bool) (T : World → Prop) (F : Env) (a : Act) (w : World), C w → T w → (∀ k, F k w) → Up Ext T → (∀ k, Up Le (F k)) →
      wpAnyS P ops C Le n L fuel listed T F a → wpAny P .any ops Q' (fuel + g) listed a w
  | 0, listed, T, F, a, w, hc, ht, hf, _, _, h => by rw [Nat.zero_add]; exact hL _ _ _ (h.2 w hc ht hf)
  | fuel + 1, listed, T, F, a, w, hc, ht, hf, hT, hF, h => by
    rw [show fuel + 1 + g = (fuel + g) + 1 by omega]
    refine ⟨fun h0 => absurd h0 h.1, fun i hi => ?_⟩
    obtain ⟨o, ho, hs⟩ := (h.2 i hi).2
    unfold wpOp
    simp only [ho]
    rcases hs with ⟨v, hv, hk⟩ | ⟨R, T', ⟨hw, hu1, hu2, hy⟩, hk⟩
    · rcases hv with ⟨hw, rfl⟩ | ⟨hw, _, h3⟩
      · simp only [hw, Bool.false_eq_true, if_false]
        exact wpAny_of_S hL hLe hC fuel _ T F _ w hc ht hf hT hF hk
      · simp only [hw, if_true]
        exact .inl (wp_of_yields (h3 w hc (fun k _ => hf k)) fun u w' ⟨he, hu⟩ => by
          rw [hu]
          exact wpAny_of_S hL hLe hC fuel _ T F _ w' (hC _ _ hc (hLe _ _ he)) (hT _ _ ht he) (fun k => hF k _ _ (hf k) (hLe _ _ he)) hT hF hk)
    · simp only [hw, if_true]
      rcases hy with ⟨_, h5, h6⟩ | ⟨_, h6⟩
      · subst h5
        exact .inl (wp_of_yields (h6 w hc (fun k _ => hf k)) fun u w' ⟨he, hr⟩ => by
          have c1 := hC _ _ hc (hLe _ _ he)
          have c2 := hT _ _ ht he
          have c3 := fun k => hF k _ _ (hf k) (hLe _ _ he)
          exact wpAny_of_S hL hLe hC fuel _ T _ _ w' c1 c2 (fun k => ⟨c3 k, fun _ => hr⟩) hT (up_add hF (hu1 u)) (hk u ⟨w', c1, hr, c2, c3⟩))
      · exact .inl (wp_of_yields (h6 w hc ht (fun k _ => hf k)) fun u w' ⟨he, hr, ht'⟩ => by
          have c1 := hC _ _ hc he
          have c3 := fun k => hF k _ _ (hf k) he
          exact wpAny_of_S hL hLe hC fuel _ (T' u) _ _ w' c1 ht' (fun k => ⟨c3 k, fun _ => hr⟩) (hu2 u) (up_add hF (hu1 u)) (hk u ⟨w', c1, hr, ht', c3⟩))

/-! ### The checks, all closed facts -/

/-- Each of 'ord' may come up, and may be taken first. -/
def OrdP (ops : Array Oper) (n : Nat) : List Nat → Array Bool → Prop
  | [], listed => ∀ j ∈ Region.ready .any ops listed, n ≤ j
  | i :: rest, listed => i < n ∧ i ∈ Region.ready .any ops listed ∧
      (∀ oi, ops[i]? = some oi → ∀ j oj, ops[j]? = some oj → j ≠ i → listed.getD j true = false → (∀ e ∈ oj.after, Region.binds .any e = true → e.on ≠ i) → oi.apart ops oj = true) ∧
      (∀ j, listed.getD j true = false → j ≠ i → isCallAt ops j = true → j ∈ rest ∨ bef ops j i = true) ∧ OrdP ops n rest (listed.setIfInBounds i true)
def ordOk (ops : Array Oper) (n : Nat) : List Nat → Array Bool → Bool
  | [], listed => (Region.ready .any ops listed).all fun j => decide (n ≤ j)
  | i :: rest, listed => decide (i < n) && (Region.ready .any ops listed).contains i && Region.free .any ops listed i
      && ((List.range ops.size).all fun j => listed.getD j true || j == i || !isCallAt ops j || rest.contains j || bef ops j i) && ordOk ops n rest (listed.setIfInBounds i true)
def callIdx : List Oper → Nat → List Nat
  | [], _ => []
  | o :: l, k => if isCallB o.op then k :: callIdx l (k + 1) else callIdx l (k + 1)
/-- Of two calls the one further behind waits for the other. -/
def callsOk (ops : Array Oper) : Bool := (callIdx ops.toList 0).all fun i => (callIdx ops.toList 0).all fun j => decide (j ≤ i) || bef ops j i
def chainOk (ops : Array Oper) : List Nat → Array Bool → Bool
  | [], listed => (Region.ready .any ops listed).isEmpty
  | t :: rest, listed => (Region.ready .any ops listed == [t]) && chainOk ops rest (listed.setIfInBounds t true)
def listedOf (ops : Array Oper) (ord : List Nat) : Array Bool := ord.foldl (fun l i => l.setIfInBounds i true) (Array.replicate ops.size false)
def tailOf (ops : Array Oper) (n : Nat) : List Nat := List.range' n (ops.size - n)
def tailOk (ops : Array Oper) (n : Nat) : Bool := (List.range' n (ops.size - n)).all fun t => (List.range n).all fun k => bef ops t k

theorem callAt_lt {j : Nat} (h : isCallAt ops j = true) : j < ops.size := by
  unfold isCallAt at h
  split at h
  · rename_i o' ho'; exact (Array.getElem?_eq_some_iff.1 ho').1
  · cases h
theorem callIdx_mem : ∀ (l : List Oper) (k j : Nat) (o : Oper), l[j]? = some o → isCallB o.op = true → k + j ∈ callIdx l k
  | [], _, _, _, h, _ => by simp at h
  | x :: l, k, j, o, h, hc => by
    cases j with
    | zero => simp at h; subst h; simp [callIdx, hc]
    | succ j =>
      have := callIdx_mem l (k + 1) j o (by simpa using h) hc
      rw [show k + 1 + j = k + (j + 1) by omega] at this
      simp only [callIdx]
      split
      · simp [this]
      · exact this
theorem callsOk_spec (h : callsOk ops = true) {i j : Nat} (hi : isCallAt ops i = true) (hj : isCallAt ops j = true) (hij : i < j) : bef ops j i = true := by
  have mem : ∀ k, isCallAt ops k = true → k ∈ callIdx ops.toList 0 := fun k hk => by
    have hlt := callAt_lt hk
    unfold isCallAt at hk
    split at hk
    · rename_i o ho
      have := callIdx_mem ops.toList 0 k o (by simpa using ho) hk
      simpa using this
    · cases hk
  have h1 := List.all_eq_true.1 (List.all_eq_true.1 h i (mem i hi)) j (mem j hj)
  simp only [Bool.or_eq_true, decide_eq_true_eq] at h1
  rcases h1 with h1 | h1
  · omega
  · exact h1

theorem ordP_of_ok {n : Nat} : ∀ (ord : List Nat) (listed : Array Bool), ordOk ops n ord listed = true → OrdP ops n ord listed
  | [], listed, h => by unfold OrdP; simpa [ordOk] using h
  | i :: rest, listed, h => by
    simp only [ordOk, Bool.and_eq_true, decide_eq_true_eq] at h
    obtain ⟨⟨⟨⟨hin, hr⟩, hfree⟩, hrest⟩, hord⟩ := h
    refine ⟨hin, by simpa using hr, fun oi hoi => Region.free_spec hoi hfree, fun j hj hji hcj => ?_, ordP_of_ok rest _ hord⟩
    have h1 := List.all_eq_true.1 hrest j (List.mem_range.2 (callAt_lt hcj))
    simpa [hj, hcj, hji] using h1

theorem wpAny_chain {Q : Exit → Act → World → Prop} : ∀ (tl : List Nat) (listed : Array Bool) (a : Act) (w : World), chainOk ops tl listed = true → wpOps P ops Q tl a w → wpAny P .any ops Q tl.length listed a w
  | [], listed, a, w, hc, h => ⟨by simpa [chainOk] using hc, h⟩
  | t :: rest, listed, a, w, hc, h => by
    simp only [chainOk, Bool.and_eq_true, beq_iff_eq] at hc
    rw [wpOps_cons] at h
    refine ⟨fun h0 => (by rw [hc.1] at h0; cases h0), fun i hi => ?_⟩
    rw [hc.1] at hi
    have : i = t := by simpa using hi
    subst this
    exact wpOp_mono (fun a w h => wpAny_chain rest _ a w hc.2 h) h

theorem wpAnyS_of_wpS {n : Nat} {Q : Act → World → Prop} {L : Array Bool → Act → World → Prop} (hsel : ∀ (j : Nat) (o : Oper) cs b, ops[j]? = some o → o.op ≠ .select cs b)
    (htail : ∀ t, n ≤ t → t < ops.size → ∀ k, k < n → bef ops t k = true) (hcalls : callsOk ops = true)
    (hLe : ∀ w w', Ext w w' → Le w w') (hC : Up Le C) :
    ∀ (ord : List Nat) (listed : Array Bool) (T : World → Prop) (F : Env) (a : Act), closed ops listed → OrdP ops n ord listed → (∃ w, C w ∧ T w ∧ ∀ k, F k w) → Up Ext T → (∀ k, Up Le (F k)) →
      (∀ a w, Q a w → L (ord.foldl (fun l i => l.setIfInBounds i true) listed) a w) →
      wpS P ops C Le Q ord T F a → wpAnyS P ops C Le n L ord.length listed T F a
  | [], listed, T, F, a, _, hord, _, _, _, hQ, h => ⟨hord, fun w hc ht hf => hQ _ _ (h w hc ht hf)⟩
  | i :: rest, listed, T, F, a, hcl, hord, hcons, hT, hF, hQ, h => by
    obtain ⟨hin, hr, hfree, hrest, hord⟩ := hord
    obtain ⟨o, ho, h⟩ := h
    have hcl' := closed_set hcl hr
    have hun := (mem_ready.1 hr).1
    have hstep : ∀ T' F' a', (∃ w, C w ∧ T' w ∧ ∀ k, F' k w) → Up Ext T' → (∀ k, Up Le (F' k)) → wpS P ops C Le Q rest T' F' a' → wpAnyS P ops C Le n L rest.length (listed.setIfInBounds i true) T' F' a' :=
      fun T' F' a' h1 h2 h3 h4 => wpAnyS_of_wpS hsel htail hcalls hLe hC rest _ T' F' a' hcl' hord h1 h2 h3 hQ h4
    refine firstS ho hin hsel htail hLe hC rest.length listed T F a hcl (hfree o ho) hr hcons hT hF ?_
    rcases h with ⟨v, hv, hk⟩ | ⟨hchk, R, T', hM, hk⟩
    · exact .inl ⟨v, hv, hstep _ _ _ hcons hT hF hk⟩
    · refine .inr ⟨fun j hj hji hcj => ?_, R, T', hM, fun u hu => hstep _ _ _ ?_ (hM.2.2.1 u) (up_add hF (hM.2.1 u)) (hk u hu)⟩
      · rcases hchk with hcb | hchk
        · have hci : isCallAt ops i = true := by unfold isCallAt; rw [ho]; exact hcb
          rcases Nat.lt_or_gt_of_ne hji with h1 | h1
          · have := callsOk_spec hcalls hcj hci h1
            rw [bef_ready hcl hr hj] at this; cases this
          · exact callsOk_spec hcalls hci hcj h1
        · rcases hrest j hj hji hcj with h1 | h1
          · have h2 := List.all_eq_true.1 hchk j h1
            simpa [hcj] using h2
          · exact h1
      · obtain ⟨w, c1, c2, c3, c4⟩ := hu
        exact ⟨w, c1, c3, fun k => ⟨c4 k, fun _ => c2⟩⟩

theorem closed_none : closed ops (Array.replicate ops.size false) := ⟨by simp, fun j oj _ hl => by
    exfalso
    rcases Nat.lt_or_ge j ops.size with h | h
    · simp [h] at hl
    · simp [h] at hl⟩

theorem wp_region_gen {id : Nat} {Q : Exit → Act → World → Prop} {a : Act} {w : World} (n : Nat) (ord : List Nat) (Le : World → World → Prop) (C T : World → Prop) (hm : P.follows .mixedOrders = true)
    (h1 : Region.noSelect ops = true) (htail : ∀ t, n ≤ t → t < ops.size → ∀ k, k < n → bef ops t k = true) (hcalls : callsOk ops = true) (hord : OrdP ops n ord (Array.replicate ops.size false))
    (h6 : ∀ a w, wpOps P ops Q (tailOf ops n) a w → wpAny P .any ops Q (tailOf ops n).length (listedOf ops ord) a w) (h7 : ord.length + (tailOf ops n).length = ops.size)
    (hLe : ∀ w w', Ext w w' → Le w w') (hC : Up Le C) (hT : Up Ext T) (hCw : C w.drew) (hTw : T w.drew)
    (h : wpS P ops C Le (wpOps P ops Q (tailOf ops n)) ord T (fun _ _ => True) a) : (Code.region id ops true).wp P Q a w := by
  have hS := wpAnyS_of_wpS (L := fun listed a w => listed = listedOf ops ord ∧ wpOps P ops Q (tailOf ops n) a w) (Region.noSelect_spec h1) htail hcalls hLe hC ord _ T (fun _ _ => True) a closed_none hord ⟨w.drew, hCw, hTw, fun _ => trivial⟩ hT (fun _ _ _ _ _ => trivial) (fun a w hq => ⟨rfl, hq⟩) h
  have hA := wpAny_of_S (g := (tailOf ops n).length) (L := fun listed a w => listed = listedOf ops ord ∧ wpOps P ops Q (tailOf ops n) a w) (fun listed a w hl => by obtain ⟨rfl, hl⟩ := hl; exact h6 a w hl) hLe hC ord.length _ T _ a w.drew hCw hTw (fun _ => trivial) hT (fun _ _ _ _ _ => trivial) hS
  rw [h7] at hA
  exact wp_region_any hm hA

def stabOk (ops : Array Oper) (n : Nat) (ord : List Nat) : Bool :=
  Region.noSelect ops && tailOk ops n && callsOk ops && ordOk ops n ord (Array.replicate ops.size false) && chainOk ops (tailOf ops n) (listedOf ops ord) && (ord.length + (tailOf ops n).length == ops.size)

theorem tailOk_spec {n : Nat} (h4 : tailOk ops n = true) : ∀ t, n ≤ t → t < ops.size → ∀ k, k < n → bef ops t k = true := fun t ht hts k hk =>
  List.all_eq_true.1 (List.all_eq_true.1 h4 t (by simp [List.mem_range']; exact ⟨t - n, by omega, by omega⟩)) k (List.mem_range.2 hk)

theorem wp_region_stab {id : Nat} {Q : Exit → Act → World → Prop} {a : Act} {w : World} (n : Nat) (ord : List Nat) (Le : World → World → Prop) (C T : World → Prop) (hm : P.follows .mixedOrders = true) (hok : stabOk ops n ord = true)
    (hLe : ∀ w w', Ext w w' → Le w w') (hC : Up Le C) (hT : Up Ext T) (hCw : C w.drew) (hTw : T w.drew)
    (h : wpS P ops C Le (wpOps P ops Q (tailOf ops n)) ord T (fun _ _ => True) a) : (Code.region id ops true).wp P Q a w := by
  simp only [stabOk, Bool.and_eq_true, beq_iff_eq] at hok
  obtain ⟨⟨⟨⟨⟨h1, h4⟩, h2⟩, h5⟩, h6⟩, h7⟩ := hok
  exact wp_region_gen n ord Le C T hm h1 (tailOk_spec h4) h2 (ordP_of_ok _ _ h5) (fun a w hl => wpAny_chain _ _ a w h6 hl) h7 hLe hC hT hCw hTw h

/-! ### The order of the text, by one pass -/
def dstAt (ops : Array Oper) (i : Nat) : Option Tmp := (ops[i]?).bind (·.dst)
def waits (o : Oper) (f : Nat → Bool) : Bool := o.after.toList.any fun e => Region.binds .any e && f e.on
def lexGo (ops : Array Oper) : List Oper → Nat → Nat → Nat → Bool
  | [], _, _, _ => true
  | o :: l, j, W, L =>
    (o.after.toList.all fun e => !Region.binds .any e || decide (e.on < j)) &&
    ((o.looksAt ops).all fun t => !W.testBit t || waits o fun i => dstAt ops i == some t) &&
    (match o.dst with
      | none => true
      | some d => !W.testBit d && (!L.testBit d || (List.range j).all fun i => match ops[i]? with | some oi => !(oi.looksAt ops).contains d || waits o (· == i) | none => true)) &&
    lexGo ops l (j + 1) (match o.dst with | some d => W ||| 2 ^ d | none => W) ((o.looksAt ops).foldl (fun s t => s ||| 2 ^ t) L)
def lexOk (ops : Array Oper) : Bool := Region.noSelect ops && callsOk ops && lexGo ops ops.toList 0 0 0

structure LexAt (ops : Array Oper) (k : Nat) (o : Oper) : Prop where
  below : ∀ e ∈ o.after, Region.binds .any e = true → e.on < k
  reads : ∀ t, t ∈ o.looksAt ops → ∀ i, i < k → dstAt ops i = some t → ∃ e ∈ o.after, Region.binds .any e = true ∧ dstAt ops e.on = some t
  writes : ∀ d, o.dst = some d → ∀ i, i < k → dstAt ops i ≠ some d
  over : ∀ d, o.dst = some d → ∀ i oi, i < k → ops[i]? = some oi → d ∈ oi.looksAt ops → ∃ e ∈ o.after, Region.binds .any e = true ∧ e.on = i

theorem waits_spec {o : Oper} {f : Nat → Bool} (h : waits o f = true) : ∃ e ∈ o.after, Region.binds .any e = true ∧ f e.on = true := by
  obtain ⟨e, he, h1⟩ := List.any_eq_true.1 h
  simp only [Bool.and_eq_true] at h1
  exact ⟨e, by simpa using he, h1⟩

theorem foldl_bits (l : List Nat) : ∀ (s t : Nat), (s.testBit t = true ∨ t ∈ l) → (l.foldl (fun s t => s ||| 2 ^ t) s).testBit t = true := by
  induction l with
  | nil =>
    intro s t h
    rcases h with h | h
    · exact h
    · cases h
  | cons x l ih =>
    intro s t h
    rw [List.foldl_cons]
    refine ih _ _ ?_
    rcases h with h | h
    · exact .inl (by simp [Nat.testBit_or, h])
    · rcases List.mem_cons.1 h with rfl | h
      · exact .inl (by simp [Nat.testBit_or])
      · exact .inr h

theorem lexGo_spec : ∀ (l : List Oper) (j W L : Nat), (∀ i, l[i]? = ops[j + i]?) → lexGo ops l j W L = true → (∀ i t, i < j → dstAt ops i = some t → W.testBit t = true) → (∀ i oi t, i < j → ops[i]? = some oi → t ∈ oi.looksAt ops → L.testBit t = true) →
    ∀ k o, j ≤ k → ops[k]? = some o → LexAt ops k o
  | [], j, W, L, hl, _, _, _, k, o, hk, ho => by
    have := hl (k - j)
    rw [show j + (k - j) = k by omega, ho] at this
    simp at this
  | x :: l, j, W, L, hl, h, hW, hL, k, o, hk, ho => by
    simp only [lexGo, Bool.and_eq_true] at h
    obtain ⟨⟨⟨h1, h2⟩, h3⟩, h4⟩ := h
    have h0 : ops[j]? = some x := by simpa using (hl 0).symm
    rcases Nat.lt_or_eq_of_le hk with hlt | heq
    · refine lexGo_spec l (j + 1) _ _ (fun i => by have := hl (i + 1); simpa [Nat.add_assoc, Nat.add_comm 1 i] using this) h4 (fun i t hi ht => ?_) (fun i oi t hi hoi ht => ?_) k o hlt ho
      · rcases Nat.lt_or_eq_of_le (Nat.le_of_lt_succ hi) with hi' | rfl
        · have := hW i t hi' ht
          split
          · simp [Nat.testBit_or, this]
          · exact this
        · simp only [dstAt, h0, Option.bind_some] at ht
          simp [ht, Nat.testBit_or]
      · rcases Nat.lt_or_eq_of_le (Nat.le_of_lt_succ hi) with hi' | rfl
        · exact foldl_bits _ _ _ (.inl (hL i oi t hi' hoi ht))
        · have : oi = x := Option.some.inj (hoi.symm.trans h0)
          subst this
          exact foldl_bits _ _ _ (.inr ht)
    · subst heq
      have : o = x := Option.some.inj (ho.symm.trans h0)
      subst this
      refine ⟨fun e he hb => ?_, fun t ht i hi hd => ?_, fun d hd i hi hdi => ?_, fun d hd i oi hi hoi ht => ?_⟩
      · have := List.all_eq_true.1 h1 e (by simpa using he)
        simpa [hb] using this
      · have := List.all_eq_true.1 h2 t ht
        simp only [hW i t hi hd, Bool.not_true, Bool.false_or] at this
        obtain ⟨e, he, hb, hf⟩ := waits_spec this
        exact ⟨e, he, hb, by simpa using hf⟩
      · rw [hd] at h3
        simp only [Bool.and_eq_true, Bool.not_eq_true'] at h3
        rw [hW i d hi hdi] at h3
        cases h3.1
      · rw [hd] at h3
        simp only [Bool.and_eq_true, hL i oi d hi hoi ht, Bool.not_true, Bool.false_or] at h3
        have h5 := List.all_eq_true.1 h3.2 i (List.mem_range.2 hi)
        simp only [hoi] at h5
        have h6 : (oi.looksAt ops).contains d = true := by simpa using ht
        rw [h6] at h5
        simp only [Bool.not_true, Bool.false_or] at h5
        obtain ⟨e, he, hb, hf⟩ := waits_spec h5
        exact ⟨e, he, hb, by simpa using hf⟩

theorem lex_apart (hx : ∀ k o, ops[k]? = some o → LexAt ops k o) {i j : Nat} {oi oj : Oper} (hi : ops[i]? = some oi) (hj : ops[j]? = some oj) (hij : i < j) (hno : ∀ e ∈ oj.after, Region.binds .any e = true → e.on ≠ i) : oi.apart ops oj = true := by
  have Hj := hx j oj hj
  have one : ∀ a b d, a < b → dstAt ops a = some d → dstAt ops b = some d → False := fun a b d hab ha hb => by
    unfold dstAt at hb
    cases hob : ops[b]? with
    | none => simp [hob] at hb
    | some ob => rw [hob] at hb; exact (hx b ob hob).writes d (by simpa using hb) a hab ha
  have k1 : ∀ d, oi.dst = some d → d ∉ oj.looksAt ops := fun d hd hm => by
    have hdi : dstAt ops i = some d := by simp [dstAt, hi, hd]
    obtain ⟨e, he, hb, hde⟩ := Hj.reads d hm i hij hdi
    rcases Nat.lt_trichotomy e.on i with h | h | h
    · exact one _ _ d h hde hdi
    · exact hno e he hb h
    · exact one _ _ d h hdi hde
  have k2 : ∀ d, oi.dst = some d → oj.dst ≠ some d := fun d hd hdj => Hj.writes d hdj i hij (by simp [dstAt, hi, hd])
  have k3 : ∀ d, oj.dst = some d → d ∉ oi.looksAt ops := fun d hd hm => by
    obtain ⟨e, he, hb, heq⟩ := Hj.over d hd i oi hij hi hm
    exact hno e he hb heq
  unfold Oper.apart
  rw [Bool.and_eq_true]
  constructor
  · cases hd : oi.dst with
    | none => rfl
    | some d =>
      have a1 := k1 d hd
      have a2 := k2 d hd
      simp only [Bool.and_eq_true, Bool.not_eq_true', bne_iff_ne]
      exact ⟨by simpa using a1, a2⟩
  · cases hd : oj.dst with
    | none => rfl
    | some d =>
      have a3 := k3 d hd
      simp only [Bool.not_eq_true']
      simpa using a3

/-- The first k are listed. -/
def Lst (ops : Array Oper) (listed : Array Bool) (k : Nat) : Prop := listed.size = ops.size ∧ ∀ j, j < ops.size → listed[j]? = some (decide (j < k))
theorem Lst.set {listed : Array Bool} {k : Nat} (h : Lst ops listed k) (hk : k < ops.size) : Lst ops (listed.setIfInBounds k true) (k + 1) := by
  refine ⟨by simp [h.1], fun j hj => ?_⟩
  by_cases hjk : k = j
  · subst hjk; simp [h.1, hk]
  · rw [Array.getElem?_setIfInBounds_ne hjk, h.2 j hj]
    congr 1
    rw [decide_eq_decide]; omega
theorem Lst.un {listed : Array Bool} {k j : Nat} (h : Lst ops listed k) (hj : listed.getD j true = false) : j < ops.size ∧ k ≤ j := by
  have hjs : j < ops.size := by
    rcases Nat.lt_or_ge j listed.size with h' | h'
    · rw [← h.1]; exact h'
    · simp [h'] at hj
  have := h.2 j hjs
  simp [this] at hj
  exact ⟨hjs, hj⟩
theorem Lst.ready {listed : Array Bool} {k : Nat} {o : Oper} (hx : LexAt ops k o) (h : Lst ops listed k) (ho : ops[k]? = some o) : k ∈ Region.ready .any ops listed := by
  have hk := (Array.getElem?_eq_some_iff.1 ho).1
  refine mem_ready.2 ⟨by simp [h.2 k hk], o, ho, fun e he hb => ?_⟩
  have := hx.below e he hb
  simp [h.2 e.on (by omega), this]

theorem lex_ordP (hx : ∀ k o, ops[k]? = some o → LexAt ops k o) {n : Nat} (hn : n ≤ ops.size) (htail : ∀ t, n ≤ t → t < ops.size → ∀ k, k < n → bef ops t k = true) : ∀ (m k : Nat) (listed : Array Bool), k + m = n → Lst ops listed k → OrdP ops n (List.range' k m) listed
  | 0, k, listed, hk, h => fun j hj => by have := (h.un (mem_ready.1 hj).1).2; omega
  | m + 1, k, listed, hk, h => by
    have hks : k < ops.size := by omega
    have ho : ops[k]? = some ops[k] := by simp [hks]
    rw [List.range'_succ]
    refine ⟨by omega, h.ready (hx k _ ho) ho, fun oi hoi j oj hoj hjk hun hno => ?_, fun j hun hjk hcj => ?_, lex_ordP hx hn htail m (k + 1) _ (by omega) (h.set hks)⟩
    · have := (h.un hun).2
      exact lex_apart hx hoi hoj (by omega) hno
    · obtain ⟨hjs, hge⟩ := h.un hun
      by_cases hjn : j < n
      · exact .inl (List.mem_range'.2 ⟨j - (k + 1), by omega, by omega⟩)
      · exact .inr (htail j (by omega) hjs k (by omega))

theorem Lst.none : Lst ops (Array.replicate ops.size false) 0 := ⟨by simp, fun j hj => by simp [hj]⟩
theorem lst_fold : ∀ (m k : Nat) (listed : Array Bool), k + m ≤ ops.size → Lst ops listed k → Lst ops ((List.range' k m).foldl (fun l i => l.setIfInBounds i true) listed) (k + m)
  | 0, k, listed, _, h => by simpa using h
  | m + 1, k, listed, hk, h => by
    rw [List.range'_succ, List.foldl_cons, show k + (m + 1) = k + 1 + m by omega]
    exact lst_fold m (k + 1) _ (by omega) (h.set (by omega))

theorem lexOk_spec (h : lexOk ops = true) : Region.noSelect ops = true ∧ callsOk ops = true ∧ ∀ k o, ops[k]? = some o → LexAt ops k o := by
  simp only [lexOk, Bool.and_eq_true] at h
  exact ⟨h.1.1, h.1.2, fun k o ho => lexGo_spec ops.toList 0 0 0 (by simp) h.2 (fun i _ hi => by omega) (fun i _ _ hi => by omega) k o (Nat.zero_le _) ho⟩

theorem wp_region_lex0 {id : Nat} {Q : Exit → Act → World → Prop} {a : Act} {w : World} (Le : World → World → Prop) (C T : World → Prop) (hm : P.follows .mixedOrders = true) (hok : lexOk ops = true)
    (hLe : ∀ w w', Ext w w' → Le w w') (hC : Up Le C) (hT : Up Ext T) (hCw : C w.drew) (hTw : T w.drew)
    (h : wpS P ops C Le (Q .normal) (List.range' 0 ops.size) T (fun _ _ => True) a) : (Code.region id ops true).wp P Q a w := by
  obtain ⟨h1, h2, hx⟩ := lexOk_spec hok
  have ht : tailOf ops ops.size = [] := by simp [tailOf]
  have htail : ∀ t, ops.size ≤ t → t < ops.size → ∀ k, k < ops.size → bef ops t k = true := fun t a b => by omega
  refine wp_region_gen ops.size (List.range' 0 ops.size) Le C T hm h1 htail h2 (lex_ordP hx (Nat.le_refl _) htail ops.size 0 _ (by omega) Lst.none) (fun a w hl => ?_) (by simp [ht]) hLe hC hT hCw hTw (by rw [ht]; exact h)
  rw [ht] at hl ⊢
  refine ⟨?_, hl⟩
  have hL := lst_fold ops.size 0 _ (by omega) (Lst.none (ops := ops))
  rw [Nat.zero_add] at hL
  refine List.eq_nil_iff_forall_not_mem.2 fun j hj => ?_
  have := hL.un (mem_ready.1 hj).1
  omega

/-! ### The walk over operations that are written out -/
def wpX (P : Program) (ops : Array Oper) (C : World → Prop) (Le : World → World → Prop) (Q : Act → World → Prop) : List (Nat × Oper) → (World → Prop) → Env → Act → Prop
  | [], T, F, a => ∀ w, C w → T w → (∀ k, F k w) → Q a w
  | (i, o) :: rest, T, F, a =>
    (∃ v, validS P ops C i o F a v ∧ wpX P ops C Le Q rest T F (a.put o.dst v)) ∨
     ((isCallB o.op = true ∨ ((rest.map Prod.fst).all fun j => !isCallAt ops j || bef ops j i) = true) ∧
      ∃ R T', validM P ops C Le i o T F a R T' ∧ ∀ u, real C F R T' u → wpX P ops C Le Q rest (T' u) (addE F i (R u)) (a.put o.dst u))
def zipL : Nat → List Oper → List (Nat × Oper)
  | _, [] => []
  | k, o :: l => (k, o) :: zipL (k + 1) l
def pickL (ops : List Oper) : List Nat → List (Nat × Oper)
  | [] => []
  | i :: l => match ops[i]? with | some o => (i, o) :: pickL ops l | none => pickL ops l

theorem wpS_of_wpX {Q : Act → World → Prop} : ∀ (l : List (Nat × Oper)) (T : World → Prop) (F : Env) (a : Act), (∀ p, p ∈ l → ops[p.1]? = some p.2) → wpX P ops C Le Q l T F a → wpS P ops C Le Q (l.map Prod.fst) T F a
  | [], _, _, _, _, h => h
  | (i, o) :: rest, T, F, a, hl, h => by
    have h0 := hl (i, o) (by simp)
    have hr : ∀ p, p ∈ rest → ops[p.1]? = some p.2 := fun p hp => hl p (by simp [hp])
    refine ⟨o, h0, ?_⟩
    rcases h with ⟨v, hv, hk⟩ | ⟨hc, R, T', hM, hk⟩
    · exact .inl ⟨v, hv, wpS_of_wpX rest _ _ _ hr hk⟩
    · exact .inr ⟨hc, R, T', hM, fun u hu => wpS_of_wpX rest _ _ _ hr (hk u hu)⟩

theorem zipL_mem : ∀ (l : List Oper) (k : Nat), (∀ j, j < l.length → l[j]? = ops[k + j]?) → ∀ p, p ∈ zipL k l → ops[p.1]? = some p.2
  | [], _, _, _, hp => by cases hp
  | o :: l, k, h, p, hp => by
    cases hp with
    | head => simpa using (h 0 (by simp)).symm
    | tail _ hp => exact zipL_mem l (k + 1) (fun j hj => by have := h (j + 1) (by simpa using hj); simpa [Nat.add_assoc, Nat.add_comm 1 j] using this) p hp
theorem zipL_fst : ∀ (l : List Oper) (k : Nat), (zipL k l).map Prod.fst = List.range' k l.length
  | [], _ => rfl
  | o :: l, k => by simp [zipL, zipL_fst l (k + 1), List.range'_succ]
theorem pickL_mem (ops : List Oper) : ∀ (l : List Nat) (p : Nat × Oper), p ∈ pickL ops l → ops.toArray[p.1]? = some p.2
  | [], _, hp => by cases hp
  | i :: l, p, hp => by
    simp only [pickL] at hp
    split at hp
    · rename_i o ho
      cases hp with
      | head => simpa using ho
      | tail _ hp => exact pickL_mem ops l p hp
    · exact pickL_mem ops l p hp

/-- In the order of the text, no tail. -/
theorem wp_region_lex {id : Nat} {Q : Exit → Act → World → Prop} {a : Act} {w : World} {l : List Oper} (Le : World → World → Prop) (C T : World → Prop) (hm : P.follows .mixedOrders = true) (hok : lexOk l.toArray = true)
    (hLe : ∀ w w', Ext w w' → Le w w') (hC : Up Le C) (hT : Up Ext T) (hCw : C w.drew) (hTw : T w.drew)
    (h : wpX P l.toArray C Le (Q .normal) (zipL 0 l) T (fun _ _ => True) a) : (Code.region id l.toArray true).wp P Q a w := by
  refine wp_region_lex0 Le C T hm hok hLe hC hT hCw hTw ?_
  have h1 := wpS_of_wpX (zipL 0 l) T (fun _ _ => True) a (zipL_mem l 0 (by simp)) h
  rw [zipL_fst] at h1
  exact h1

/-- In the order of the text, the operations from number n on in their forced order. -/
theorem wp_region_lexTail {id : Nat} {Q : Exit → Act → World → Prop} {a : Act} {w : World} {l : List Oper} (n : Nat) (Le : World → World → Prop) (C T : World → Prop) (hm : P.follows .mixedOrders = true) (hok : (decide (n ≤ l.length) && stabOk l.toArray n (List.range' 0 n)) = true)
    (hLe : ∀ w w', Ext w w' → Le w w') (hC : Up Le C) (hT : Up Ext T) (hCw : C w.drew) (hTw : T w.drew)
    (h : wpX P l.toArray C Le (wpList P l.toArray Q (l.drop n)) (zipL 0 (l.take n)) T (fun _ _ => True) a) : (Code.region id l.toArray true).wp P Q a w := by
  simp only [Bool.and_eq_true, decide_eq_true_eq] at hok
  refine wp_region_stab n (List.range' 0 n) Le C T hm hok.2 hLe hC hT hCw hTw ?_
  have h1 := wpS_of_wpX (zipL 0 (l.take n)) T (fun _ _ => True) a (zipL_mem (l.take n) 0 (fun j hj => by
    have : j < n := by simp at hj; omega
    simp [this])) h
  rw [zipL_fst] at h1
  have h2 : (l.take n).length = n := by simp; omega
  rw [h2] at h1
  have h3 := wpOps_eq_wpList (P := P) (ops := l.toArray) (Q := Q) (l.drop n) n (fun j => by simp)
  have h4 : tailOf l.toArray n = List.range' n (l.drop n).length := by simp [tailOf]
  rw [h4, h3]
  exact h1

/-- In an order of one's own; no tail. -/
theorem wp_region_ord {id : Nat} {Q : Exit → Act → World → Prop} {a : Act} {w : World} {l : List Oper} (ord : List Nat) (Le : World → World → Prop) (C T : World → Prop) (hm : P.follows .mixedOrders = true) (hok : (decide ((pickL l ord).map Prod.fst = ord) && stabOk l.toArray l.length ord) = true)
    (hLe : ∀ w w', Ext w w' → Le w w') (hC : Up Le C) (hT : Up Ext T) (hCw : C w.drew) (hTw : T w.drew)
    (h : wpX P l.toArray C Le (Q .normal) (pickL l ord) T (fun _ _ => True) a) : (Code.region id l.toArray true).wp P Q a w := by
  simp only [Bool.and_eq_true, decide_eq_true_eq] at hok
  refine wp_region_stab l.length ord Le C T hm hok.2 hLe hC hT hCw hTw ?_
  have h1 := wpS_of_wpX (pickL l ord) T (fun _ _ => True) a (pickL_mem l ord) h
  rw [hok.1] at h1
  have h2 : tailOf l.toArray l.length = [] := by simp [tailOf]
  rw [h2]
  exact h1

section
variable {Q : Act → World → Prop} {i : Nat} {rest : List (Nat × Oper)} {T : World → Prop} {F : Env} {a : Act} {o : Oper}
theorem wpX_end (h : ∀ w, C w → T w → (∀ k, F k w) → Q a w) : wpX P ops C Le Q [] T F a := h
theorem wpX_val (hw : Region.wanted o (yielded ops a.tmps) = true) (hn : isCallB o.op = false)
    (h : ∃ v, (∀ w, C w → seen ops i F w → yields P o a w (fun u w' => Ext w w' ∧ u = v)) ∧ wpX P ops C Le Q rest T F (a.put o.dst v)) : wpX P ops C Le Q ((i, o) :: rest) T F a :=
  let ⟨v, hy, h⟩ := h
  .inl ⟨v, .inr ⟨hw, hn, hy⟩, h⟩
theorem wpX_skip (hw : Region.wanted o (yielded ops a.tmps) = false)
    (h : wpX P ops C Le Q rest T F (a.put o.dst undef)) : wpX P ops C Le Q ((i, o) :: rest) T F a :=
  .inl ⟨undef, .inl ⟨hw, rfl⟩, h⟩
theorem wpX_new (R : Value → World → Prop) (hw : Region.wanted o (yielded ops a.tmps) = true) (hn : isCallB o.op = false)
    (hc : ((rest.map Prod.fst).all fun j => !isCallAt ops j || bef ops j i) = true) (hu : ∀ u, Up Le (R u)) (hT : Up Ext T)
    (hy : ∀ w, C w → seen ops i F w → yields P o a w (fun u w' => Ext w w' ∧ R u w')) (h : ∀ u, real C F R (fun _ => T) u → wpX P ops C Le Q rest T (addE F i (R u)) (a.put o.dst u)) : wpX P ops C Le Q ((i, o) :: rest) T F a :=
  .inr ⟨.inr hc, R, fun _ => T, ⟨hw, hu, fun _ => hT, .inl ⟨hn, rfl, hy⟩⟩, h⟩
theorem wpX_call (R T' : Value → World → Prop) (hw : Region.wanted o (yielded ops a.tmps) = true) (hn : isCallB o.op = true)
    (hu : ∀ u, Up Le (R u)) (hT : ∀ u, Up Ext (T' u))
    (hy : ∀ w, C w → T w → seen ops i F w → yields P o a w (fun u w' => Le w w' ∧ R u w' ∧ T' u w')) (h : ∀ u, real C F R T' u → wpX P ops C Le Q rest (T' u) (addE F i (R u)) (a.put o.dst u)) : wpX P ops C Le Q ((i, o) :: rest) T F a :=
  .inr ⟨.inl hn, R, T', ⟨hw, hu, hT, .inr ⟨hn, hy⟩⟩, h⟩
end

theorem wpX_mono {Q : Act → World → Prop} : ∀ (l : List (Nat × Oper)) (T : World → Prop) (F F' : Env) (a : Act), (∀ k w, F' k w → F k w) → wpX P ops C Le Q l T F a → wpX P ops C Le Q l T F' a
  | [], T, F, F', a, hF, h => fun w hc ht hf => h w hc ht fun k => hF _ _ (hf k)
  | (i, o) :: rest, T, F, F', a, hF, h => by
    have hs : ∀ w, seen ops i F' w → seen ops i F w := fun w hw k hk => hF _ _ (hw k hk)
    rcases h with ⟨v, hv, hk⟩ | ⟨hc, R, T', ⟨hw, hu1, hu2, hy⟩, hk⟩
    · refine .inl ⟨v, ?_, wpX_mono rest _ _ _ _ hF hk⟩
      rcases hv with hv | ⟨h1, h2, h3⟩
      · exact .inl hv
      · exact .inr ⟨h1, h2, fun w hc hs' => h3 w hc (hs w hs')⟩
    · refine .inr ⟨hc, R, T', ⟨hw, hu1, hu2, ?_⟩, fun u hu => wpX_mono rest _ _ _ _ (fun k w h => ⟨hF _ _ h.1, h.2⟩) (hk u ?_)⟩
      · rcases hy with ⟨h1, h2, h3⟩ | ⟨h1, h2⟩
        · exact .inl ⟨h1, h2, fun w hc hs' => h3 w hc (hs w hs')⟩
        · exact .inr ⟨h1, fun w hc ht hs' => h2 w hc ht (hs w hs')⟩
      · obtain ⟨w, h1, h2, h3, h4⟩ := hu
        exact ⟨w, h1, h2, h3, fun k => hF _ _ (h4 k)⟩

/-- A call of one value. -/
theorem wpX_call1 {Q : Act → World → Prop} {i : Nat} {rest : List (Nat × Oper)} {T : World → Prop} {F : Env} {a : Act} {o : Oper} (hw : Region.wanted o (yielded ops a.tmps) = true) (hn : isCallB o.op = true) (hT : Up Ext T)
    (h : ∃ v, (∀ w, C w → T w → seen ops i F w → yields P o a w (fun u w' => Le w w' ∧ u = v ∧ T w')) ∧ wpX P ops C Le Q rest T F (a.put o.dst v)) : wpX P ops C Le Q ((i, o) :: rest) T F a :=
  let ⟨v, hy, h⟩ := h
  wpX_call (fun u _ => u = v) (fun _ => T) hw hn (fun u w w' h _ => h) (fun _ => hT) (fun w hc' ht hs => hy w hc' ht hs) (fun u ⟨w, _, hu, _, _⟩ => by subst hu; exact wpX_mono rest _ _ _ _ (fun k w h => h.1) h)

end

end Stab
end Go.Proofs.YtjnllilmimngoaaGreatDoor
