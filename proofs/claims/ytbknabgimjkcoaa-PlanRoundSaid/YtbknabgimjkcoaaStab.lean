/-
  A region that draws its order is walked once, in one order that its edges allow: operations that only make memory, calls that keep a relation between worlds, and a tail in a forced order.
-/
import Derived.Below
import Derived.Orders
import Derived.Tactics
namespace Go.Proofs.Ytbknabgimjkcoaa
open Go.RowKit

/-- The world w' is w with new blocks. -/
def Ext (w w' : World) : Prop := Below w.heap.size w w'
theorem Ext.below {w w' : World} (h : Ext w w') : Below w.heap.size w w' := h
theorem Ext.refl (w : World) : Ext w w := Below.refl _ _
theorem Ext.trans {a b c : World} (h : Ext a b) (k : Ext b c) : Ext a c := Below.trans h (Below.mono k h.size)
theorem Ext.alloc {a b : World} (h : Ext a b) (o : Obj) : Ext a (b.alloc o) := Below.alloc h h.size o
theorem Ext.drew {a b : World} (h : Ext a b) : Ext a b.drew := Below.drew h
theorem Ext.set {a b : World} (h : Ext a b) {p : Addr} (hp : a.heap.size ≤ p.block) (u : Value) : Ext a (b.setCell p u) := Below.setCell h hp u
theorem Ext.sz {a b : World} (h : Ext a b) : a.heap.size ≤ b.heap.size := Below.size h

theorem bcell {W w1 : World} (hb : Ext W w1) : (∀ b o, b < W.heap.size → w1.cell? ⟨b, o, none⟩ = W.cell? ⟨b, o, none⟩) ∧ (∀ b o, b < W.heap.size → w1.frozen? ⟨b, o, none⟩ = W.frozen? ⟨b, o, none⟩) :=
  ⟨fun b o h => Below.cell hb (p := ⟨b, o, none⟩) h, fun b o h => Below.frozen hb (p := ⟨b, o, none⟩) h⟩

theorem Ext.cell {w w' : World} (h : Ext w w') {p : Addr} {v : Value} (hc : w.cell? p = some v) : w'.cell? p = some v := by
  rw [Below.cell h (World.block_lt_of_cell? w _ hc)]; exact hc
theorem Ext.frozen {w w' : World} (h : Ext w w') {p : Addr} (hp : p.block < w.heap.size) (hc : w.frozen? p = false) : w'.frozen? p = false := by
  rw [Below.frozen h hp]; exact hc

/-- A cell behind a store into it: no condition. -/
theorem cellSet (w : World) (a : Addr) (v : Value) : (w.setCell a v).cell? a = (w.cell? a).map fun _ => v := by
  cases h : w.cell? a with
  | some u => rw [World.cell?_setCell_same w a v h]; rfl
  | none =>
    simp only [Option.map_none]
    unfold World.cell? at h ⊢
    simp only [World.setCell, Array.getElem?_modify, ↓reduceIte]
    cases hb : w.heap[a.block]? with
    | none => rfl
    | some o =>
      rw [hb] at h
      cases o <;> simp_all
attribute [go_sem] cellSet
/-- What is known of a world, in the place of the world. -/
theorem absW {K : Act → World → Prop} {a : Act} {w : World} (I : World → Prop) (h : I w) (hk : ∀ w', I w' → K a w') : K a w := hk w h

namespace Stab

abbrev Env := Nat → World → Prop
def addE (F : Env) (i : Nat) (p : World → Prop) : Env := fun k w => F k w ∧ (k = i → p w)
def bef (ops : Array Oper) (j k : Nat) : Bool := ((Region.before ops).getD j 0).testBit k
def seen (ops : Array Oper) (j : Nat) (F : Env) (w : World) : Prop := ∀ k, bef ops j k = true → F k w
def isCallB : Op → Bool
  | .call c => (match c.callee with | .builtin _ => false | _ => true)
  | _ => false
def isCallAt (ops : Array Oper) (j : Nat) : Bool := match ops[j]? with | some o => isCallB o.op | none => false

def yieldsUpon (P : Program) (o : Oper) (post : Value → World → Prop) : Result Next → Prop
  | .ok (.value u) w' => post u w'
  | .ok .skip w' => post undef w'
  | .ok (.enter f args) w' => isCallB o.op = true ∧ Calls P f args w' (fun e w'' => match e with | .returned u => post u w'' | _ => False)
  | _ => False
def yields (P : Program) (o : Oper) (a : Act) (w : World) (post : Value → World → Prop) : Prop := yieldsUpon P o post ((execOp a.eval o).run P w)
theorem yieldsUpon_value (P : Program) (o : Oper) (post : Value → World → Prop) (u : Value) (w : World) : yieldsUpon P o post (.ok (.value u) w) = post u w := rfl
theorem yieldsUpon_skip (P : Program) (o : Oper) (post : Value → World → Prop) (w : World) : yieldsUpon P o post (.ok .skip w) = post undef w := rfl
theorem yieldsUpon_enter (P : Program) (o : Oper) (post : Value → World → Prop) (f : FuncId) (args : Array Value) (w : World) : yieldsUpon P o post (.ok (.enter f args) w) = (isCallB o.op = true ∧ Calls P f args w (fun e w'' => match e with | .returned u => post u w'' | _ => False)) := rfl
attribute [go_sem] yieldsUpon_value yieldsUpon_skip yieldsUpon_enter yields

theorem yields_mono {P : Program} {o : Oper} {a : Act} {w : World} {p q : Value → World → Prop} (h : yields P o a w p) (hpq : ∀ u w', p u w' → q u w') : yields P o a w q := by
  unfold yields yieldsUpon at *
  generalize (execOp a.eval o).run P w = r at *
  cases r with
  | ok n w' =>
    cases n <;> simp only [] at h ⊢
    case value u => exact hpq _ _ h
    case skip => exact hpq _ _ h
    case enter f args =>
      refine ⟨h.1, h.2.mono fun e w'' he => ?_⟩
      cases e with
      | returned u => exact hpq _ _ he
      | panicked c => exact he
      | outgrown => exact he
  | halt x w' => exact h

theorem yields_exists {P : Program} {o : Oper} {a : Act} {w : World} {p : Value → World → Prop} (h : yields P o a w p) : ∃ u w', p u w' := by
  unfold yields yieldsUpon at h
  generalize (execOp a.eval o).run P w = r at *
  cases r with
  | ok n w' =>
    cases n <;> simp only [] at h
    case value u => exact ⟨_, _, h⟩
    case skip => exact ⟨_, _, h⟩
    case enter f args =>
      obtain ⟨e, w'', _, hR, _⟩ := h.2 []
      cases e with
      | returned u => exact ⟨_, _, hR⟩
      | panicked c => exact hR.elim
      | outgrown => exact hR.elim
  | halt x w' => exact h.elim

theorem yields_all {P : Program} {o : Oper} {a : Act} {w : World} {I : Type} [hI : Nonempty I] {p : I → Value → World → Prop} (hn : isCallB o.op = false) (h : ∀ i, yields P o a w (p i)) : yields P o a w (fun u w' => ∀ i, p i u w') := by
  unfold yields yieldsUpon at *
  generalize (execOp a.eval o).run P w = r at *
  obtain ⟨i0⟩ := hI
  cases r with
  | ok n w' =>
    cases n <;> simp only [] at h ⊢
    case value u => exact h
    case skip => exact h
    case enter f args => have := (h i0).1; rw [hn] at this; cases this
    all_goals exact h i0
  | halt x w' => exact h i0

theorem wp_of_yields {P : Program} {o : Oper} {a : Act} {w : World} {p : Value → World → Prop} {K : Act → World → Prop} {Q : Exit → Act → World → Prop} (h : yields P o a w p) (hK : ∀ u w', p u w' → K (a.put o.dst u) w') : o.wp P a w K Q := by
  unfold yields yieldsUpon at h
  unfold Oper.wp
  generalize (execOp a.eval o).run P w = r at *
  cases r with
  | ok n w' =>
    cases n <;> simp only [] at h <;> simp only [Oper.upon]
    case value u => exact hK _ _ h
    case skip => exact hK _ _ h
    case enter f args =>
      refine h.2.mono fun e w'' he => ?_
      cases e with
      | returned u => exact hK _ _ he
      | panicked c => exact he.elim
      | outgrown => exact he.elim
  | halt x w' => exact h.elim

theorem yields_put {P : Program} {ops : Array Oper} {o : Oper} (hs : ∀ cs b, o.op ≠ .select cs b) (a : Act) (dst : Option Tmp) (v : Value) (hl : ∀ d, dst = some d → d ∉ o.looksAt ops) (w : World) (p : Value → World → Prop) : yields P o (a.put dst v) w p = yields P o a w p := by
  unfold yields
  rw [execOp_put o hs a dst v hl]

section
variable (P : Program) (ops : Array Oper) (C : World → Prop) (Le : World → World → Prop)

def Up (Le : World → World → Prop) (p : World → Prop) : Prop := ∀ w w', p w → Le w w' → p w'

/-- One value, whatever the world. -/
def validS (i : Nat) (o : Oper) (F : Env) (a : Act) (v : Value) : Prop :=
  (Region.wanted o (yielded ops a.tmps) = false ∧ v = undef) ∨
  (Region.wanted o (yielded ops a.tmps) = true ∧ isCallB o.op = false ∧ ∀ w, C w → seen ops i F w → yields P o a w (fun u w' => Ext w w' ∧ u = v))

/-- A value of which something is known. -/
def validM (i : Nat) (o : Oper) (T : World → Prop) (F : Env) (a : Act) (R : Value → World → Prop) (T' : Value → World → Prop) : Prop :=
  Region.wanted o (yielded ops a.tmps) = true ∧ (∀ u, Up Le (R u)) ∧ (∀ u, Up Ext (T' u)) ∧
  ((isCallB o.op = false ∧ (T' = fun _ => T) ∧ ∀ w, C w → seen ops i F w → yields P o a w (fun u w' => Ext w w' ∧ R u w')) ∨
   (isCallB o.op = true ∧ ∀ w, C w → T w → seen ops i F w → yields P o a w (fun u w' => Le w w' ∧ R u w' ∧ T' u w')))

def real (F : Env) (R : Value → World → Prop) (T' : Value → World → Prop) (u : Value) : Prop := ∃ w, C w ∧ R u w ∧ T' u w ∧ ∀ k, F k w

def sOp (i : Nat) (T : World → Prop) (F : Env) (K : (World → Prop) → Env → Act → Prop) (a : Act) : Prop :=
  ∃ o, ops[i]? = some o ∧
    ((∃ v, validS P ops C i o F a v ∧ K T F (a.put o.dst v)) ∨
     (∃ R T', validM P ops C Le i o T F a R T' ∧ ∀ u, real C F R T' u → K (T' u) (addE F i (R u)) (a.put o.dst u)))

/-- The walk in a given order; a value of which something is known wants that every call that is still to come waits for it. -/
def wpS (Q : Act → World → Prop) : List Nat → (World → Prop) → Env → Act → Prop
  | [], T, F, a => ∀ w, C w → T w → (∀ k, F k w) → Q a w
  | i :: rest, T, F, a => ∃ o, ops[i]? = some o ∧
    ((∃ v, validS P ops C i o F a v ∧ wpS Q rest T F (a.put o.dst v)) ∨
     ((rest.all fun j => !isCallAt ops j || bef ops j i) = true ∧
      ∃ R T', validM P ops C Le i o T F a R T' ∧ ∀ u, real C F R T' u → wpS Q rest (T' u) (addE F i (R u)) (a.put o.dst u)))

def wpAnyS (n : Nat) (L : Array Bool → Act → World → Prop) : Nat → Array Bool → (World → Prop) → Env → Act → Prop
  | 0, listed, T, F, a => (∀ j ∈ Region.ready .any ops listed, n ≤ j) ∧ ∀ w, C w → T w → (∀ k, F k w) → L listed a w
  | fuel + 1, listed, T, F, a => Region.ready .any ops listed ≠ [] ∧ ∀ i ∈ Region.ready .any ops listed, i < n ∧ sOp P ops C Le i T F (wpAnyS n L fuel (listed.setIfInBounds i true)) a
end

section
variable {P : Program} {ops : Array Oper} {C : World → Prop} {Le : World → World → Prop}

theorem seen_add {i j : Nat} {F : Env} {p : World → Prop} {w : World} (h : seen ops i (addE F j p) w) : seen ops i F w := fun k hk => (h k hk).1
theorem seen_far {i j : Nat} {F : Env} {p : World → Prop} {w : World} (hb : bef ops i j = false) (h : seen ops i F w) : seen ops i (addE F j p) w :=
  fun k hk => ⟨h k hk, fun e => by subst e; rw [hb] at hk; cases hk⟩

theorem sOp_mono {i : Nat} {T : World → Prop} {F F' : Env} {K K' : (World → Prop) → Env → Act → Prop} {a : Act} (hF : ∀ k w, F' k w → F k w)
    (hK : ∀ T G G' a, (∀ k w, G' k w → G k w) → K T G a → K' T G' a) (h : sOp P ops C Le i T F K a) : sOp P ops C Le i T F' K' a := by
  have hs : ∀ w, seen ops i F' w → seen ops i F w := fun w hw k hk => hF _ _ (hw k hk)
  obtain ⟨o, ho, h⟩ := h
  refine ⟨o, ho, ?_⟩
  rcases h with ⟨v, hv, hk⟩ | ⟨R, T', ⟨hw, hu1, hu2, hy⟩, hk⟩
  · refine .inl ⟨v, ?_, hK _ _ _ _ hF hk⟩
    rcases hv with hv | ⟨h1, h2, h3⟩
    · exact .inl hv
    · exact .inr ⟨h1, h2, fun w hc hs' => h3 w hc (hs w hs')⟩
  · refine .inr ⟨R, T', ⟨hw, hu1, hu2, ?_⟩, fun u hu => hK _ _ _ _ (fun k w h => ⟨hF _ _ h.1, h.2⟩) (hk u ?_)⟩
    · rcases hy with ⟨h1, h2, h3⟩ | ⟨h1, h2⟩
      · exact .inl ⟨h1, h2, fun w hc hs' => h3 w hc (hs w hs')⟩
      · exact .inr ⟨h1, fun w hc ht hs' => h2 w hc ht (hs w hs')⟩
    · obtain ⟨w, h1, h2, h3, h4⟩ := hu
      exact ⟨w, h1, h2, h3, fun k => hF _ _ (h4 k)⟩

theorem wpAnyS_mono {n : Nat} {L : Array Bool → Act → World → Prop} : ∀ (fuel : Nat) (listed : Array Bool) (T : World → Prop) (F F' : Env) (a : Act), (∀ k w, F' k w → F k w) →
    wpAnyS P ops C Le n L fuel listed T F a → wpAnyS P ops C Le n L fuel listed T F' a
  | 0, _, _, _, _, _, hF, h => ⟨h.1, fun w hc ht hf => h.2 w hc ht fun k => hF _ _ (hf k)⟩
  | fuel + 1, _, _, _, _, _, hF, h => ⟨h.1, fun i hi => ⟨(h.2 i hi).1, sOp_mono hF (fun T G G' a hG hk => wpAnyS_mono fuel _ T G G' a hG hk) (h.2 i hi).2⟩⟩

def closed (ops : Array Oper) (listed : Array Bool) : Prop := listed.size = ops.size ∧ ∀ j oj, ops[j]? = some oj → listed.getD j false = true → ∀ e ∈ oj.after, Region.binds .any e = true → listed.getD e.on false = true

def befOk (ops : Array Oper) : Bool := (List.range ops.size).all fun j => (List.range ops.size).all fun k => !bef ops j k || match ops[j]? with
  | some o => o.after.any fun e => Region.binds .any e && (e.on == k || decide (e.on < j) && bef ops e.on k)
  | none => false
def befIn (ops : Array Oper) : Bool := (List.range ops.size).all fun j => decide ((Region.before ops).getD j 0 < 2 ^ ops.size)

theorem bef_listed (hb : befOk ops = true) (hin : befIn ops = true) {listed : Array Bool} (hc : closed ops listed) : ∀ (m j : Nat), j ≤ m → ∀ oj, ops[j]? = some oj → (∀ e ∈ oj.after, Region.binds .any e = true → listed.getD e.on false = true) →
    ∀ k, bef ops j k = true → listed.getD k false = true := by
  intro m
  induction m with
  | zero =>
    intro j hj oj hoj hall k hk
    have hjs : j < ops.size := (Array.getElem?_eq_some_iff.1 hoj).1
    have hks : k < ops.size := by
      have h1 := List.all_eq_true.1 hin j (List.mem_range.2 hjs)
      simp only [decide_eq_true_eq] at h1
      rcases Nat.lt_or_ge k ops.size with h | h
      · exact h
      · have h2 := Nat.testBit_lt_two_pow (Nat.lt_of_lt_of_le h1 (Nat.pow_le_pow_right (by omega) h))
        unfold bef at hk; rw [h2] at hk; cases hk
    have h1 := List.all_eq_true.1 (List.all_eq_true.1 hb j (List.mem_range.2 hjs)) k (List.mem_range.2 hks)
    simp only [hk, Bool.not_true, Bool.false_or, hoj] at h1
    obtain ⟨e, he, h2⟩ := Array.any_eq_true'.1 h1
    simp only [Bool.and_eq_true, Bool.or_eq_true, beq_iff_eq, decide_eq_true_eq] at h2
    rcases h2.2 with h3 | ⟨h3, _⟩
    · rw [← h3]; exact hall e he h2.1
    · omega
  | succ m ih =>
    intro j hj oj hoj hall k hk
    have hjs : j < ops.size := (Array.getElem?_eq_some_iff.1 hoj).1
    have hks : k < ops.size := by
      have h1 := List.all_eq_true.1 hin j (List.mem_range.2 hjs)
      simp only [decide_eq_true_eq] at h1
      rcases Nat.lt_or_ge k ops.size with h | h
      · exact h
      · have h2 := Nat.testBit_lt_two_pow (Nat.lt_of_lt_of_le h1 (Nat.pow_le_pow_right (by omega) h))
        unfold bef at hk; rw [h2] at hk; cases hk
    have h1 := List.all_eq_true.1 (List.all_eq_true.1 hb j (List.mem_range.2 hjs)) k (List.mem_range.2 hks)
    simp only [hk, Bool.not_true, Bool.false_or, hoj] at h1
    obtain ⟨e, he, h2⟩ := Array.any_eq_true'.1 h1
    simp only [Bool.and_eq_true, Bool.or_eq_true, beq_iff_eq, decide_eq_true_eq] at h2
    have hel := hall e he h2.1
    rcases h2.2 with h3 | ⟨h3, h4⟩
    · rw [← h3]; exact hel
    · have hes : e.on < ops.size := by omega
      obtain ⟨oe, hoe⟩ : ∃ oe, ops[e.on]? = some oe := ⟨_, Array.getElem?_eq_getElem hes⟩
      exact ih e.on (by omega) oe hoe (fun e' he' hb' => hc.2 e.on oe hoe hel e' he' hb') k h4

theorem getD_both {listed : Array Bool} {i : Nat} (h : listed.getD i true = false) : listed.getD i false = false := by
  rcases Nat.lt_or_ge i listed.size with h' | h'
  · simp [h'] at h ⊢; exact h
  · simp [Array.getElem?_eq_none h'] at h

theorem bef_ready (hb : befOk ops = true) (hin : befIn ops = true) {listed : Array Bool} (hc : closed ops listed) {i j : Nat} (hj : j ∈ Region.ready .any ops listed) (hi : listed.getD i true = false) : bef ops j i = false := by
  obtain ⟨_, oj, hoj, hall⟩ := mem_ready.1 hj
  cases h : bef ops j i with
  | false => rfl
  | true =>
    have := bef_listed hb hin hc j j (Nat.le_refl _) oj hoj hall i h
    rw [getD_both hi] at this; cases this

theorem closed_set {listed : Array Bool} {i : Nat} (hc : closed ops listed) (hi : i ∈ Region.ready .any ops listed) : closed ops (listed.setIfInBounds i true) := by
  obtain ⟨_, oi, hoi, hall⟩ := mem_ready.1 hi
  refine ⟨by simp [hc.1], fun j oj hj hl e he hb => ?_⟩
  by_cases hij : i = j
  · subst hij
    have : oj = oi := Option.some.inj (hj.symm.trans hoi)
    subst this
    exact getD_set_true (hall e he hb)
  · rw [getD_set_ne false hij] at hl
    exact getD_set_true (hc.2 j oj hj hl e he hb)

/-- An operation that is wanted and is no call, as a value of which something is known. -/
theorem sOp_multi {i : Nat} {T : World → Prop} {F : Env} {K : (World → Prop) → Env → Act → Prop} {a : Act} {o : Oper} (ho : ops[i]? = some o) (hw : Region.wanted o (yielded ops a.tmps) = true) (hn : isCallB o.op = false)
    (hKm : ∀ T G G' a, (∀ k w, G' k w → G k w) → K T G a → K T G' a) (h : sOp P ops C Le i T F K a) :
    ∃ R : Value → World → Prop, (∀ u, Up Le (R u)) ∧ (∀ w, C w → seen ops i F w → yields P o a w (fun u w' => Ext w w' ∧ R u w')) ∧ ∀ u, real C F R (fun _ => T) u → K T (addE F i (R u)) (a.put o.dst u) := by
  obtain ⟨o', ho', h⟩ := h
  have : o' = o := Option.some.inj (ho'.symm.trans ho)
  subst this
  rcases h with ⟨v, hv, hk⟩ | ⟨R, T', ⟨_, hu1, _, hy⟩, hk⟩
  · rcases hv with ⟨hv, _⟩ | ⟨_, _, h3⟩
    · rw [hw] at hv; cases hv
    · exact ⟨fun u _ => u = v, fun u w w' h _ => h, h3, fun u ⟨w, _, hu, _⟩ => by rw [hu]; exact hKm _ _ _ _ (fun _ _ h => h.1) hk⟩
  · rcases hy with ⟨_, h2, h3⟩ | ⟨h1, _⟩
    · subst h2; exact ⟨R, hu1, h3, hk⟩
    · rw [hn] at h1; cases h1

/-- The operation 'i', which has a single value, is put behind 'j'. -/
theorem sOp_putS {j : Nat} {oi oj : Oper} {v : Value} (hj : ops[j]? = some oj) (hap : oi.apart ops oj = true) (hsj : ∀ cs b, oj.op ≠ .select cs b)
    {T : World → Prop} {F : Env} {K K' : (World → Prop) → Env → Act → Prop} {a : Act}
    (hK : ∀ T' p u, Up Ext T' → Up Le p → (∃ w, C w ∧ p w ∧ T' w ∧ ∀ k, F k w) → K T' (addE F j p) ((a.put oi.dst v).put oj.dst u) → K' T' (addE F j p) (a.put oj.dst u))
    (hK0 : ∀ u, K T F ((a.put oi.dst v).put oj.dst u) → K' T F (a.put oj.dst u))
    (h : sOp P ops C Le j T F K (a.put oi.dst v)) : sOp P ops C Le j T F K' a := by
  obtain ⟨h1, _, _⟩ := Oper.apart_spec hap
  obtain ⟨o', ho', h⟩ := h
  have : o' = oj := Option.some.inj (ho'.symm.trans hj)
  subst this
  refine ⟨o', ho', ?_⟩
  have hw := wanted_put o' a oi.dst v h1
  rcases h with ⟨u, hu, hk⟩ | ⟨R, T', ⟨hw1, hu1, hu2, hy⟩, hk⟩
  · refine .inl ⟨u, ?_, hK0 u hk⟩
    rcases hu with ⟨h2, h3⟩ | ⟨h2, h3, h4⟩
    · exact .inl ⟨by rw [← hw]; exact h2, h3⟩
    · exact .inr ⟨by rw [← hw]; exact h2, h3, fun w hc hs => by rw [← yields_put hsj a oi.dst v h1]; exact h4 w hc hs⟩
  · refine .inr ⟨R, T', ⟨by rw [← hw]; exact hw1, hu1, hu2, ?_⟩, fun u hu => hK _ _ _ (hu2 u) (hu1 u) ?_ (hk u hu)⟩
    · rcases hy with ⟨h2, h3, h4⟩ | ⟨h2, h4⟩
      · exact .inl ⟨h2, h3, fun w hc hs => by rw [← yields_put hsj a oi.dst v h1]; exact h4 w hc hs⟩
      · exact .inr ⟨h2, fun w hc ht hs => by rw [← yields_put hsj a oi.dst v h1]; exact h4 w hc ht hs⟩
    · obtain ⟨w, a1, a2, a3, a4⟩ := hu
      exact ⟨w, a1, a2, a3, a4⟩

theorem validS_put {i : Nat} {oi oj : Oper} {v u : Value} {F : Env} {a : Act} (hsi : ∀ cs b, oi.op ≠ .select cs b) (hl : ∀ d, oj.dst = some d → d ∉ oi.looksAt ops) {F' : Env} (hF : ∀ k w, F' k w → F k w) (h : validS P ops C i oi F a v) : validS P ops C i oi F' (a.put oj.dst u) v := by
  have hw := wanted_put oi a oj.dst u hl
  rcases h with ⟨h2, h3⟩ | ⟨h2, h3, h4⟩
  · exact .inl ⟨by rw [hw]; exact h2, h3⟩
  · exact .inr ⟨by rw [hw]; exact h2, h3, fun w hc hs => by rw [yields_put hsi a oj.dst u hl]; exact h4 w hc (fun k hk => hF _ _ (hs k hk))⟩

theorem validM_put {i : Nat} {oi oj : Oper} {u : Value} {T : World → Prop} {F : Env} {a : Act} {R T' : Value → World → Prop} (hsi : ∀ cs b, oi.op ≠ .select cs b) (hl : ∀ d, oj.dst = some d → d ∉ oi.looksAt ops) {F' : Env} (hF : ∀ k w, F' k w → F k w) (h : validM P ops C Le i oi T F a R T') : validM P ops C Le i oi T F' (a.put oj.dst u) R T' := by
  have hw := wanted_put oi a oj.dst u hl
  obtain ⟨h1, h2, h3, h4⟩ := h
  refine ⟨by rw [hw]; exact h1, h2, h3, ?_⟩
  rcases h4 with ⟨h4, h5, h6⟩ | ⟨h4, h6⟩
  · exact .inl ⟨h4, h5, fun w hc hs => by rw [yields_put hsi a oj.dst u hl]; exact h6 w hc (fun k hk => hF _ _ (hs k hk))⟩
  · exact .inr ⟨h4, fun w hc ht hs => by rw [yields_put hsi a oj.dst u hl]; exact h6 w hc ht (fun k hk => hF _ _ (hs k hk))⟩

theorem real_some {i : Nat} {oi : Oper} {T : World → Prop} {F : Env} {a : Act} {R T' : Value → World → Prop} (hLe : ∀ w w', Ext w w' → Le w w') (hC : Up Le C) (hT : Up Ext T) (hF : ∀ k, Up Le (F k)) (hcons : ∃ w, C w ∧ T w ∧ ∀ k, F k w)
    (h : validM P ops C Le i oi T F a R T') : ∃ u, real C F R T' u := by
  obtain ⟨w, hc, ht, hf⟩ := hcons
  obtain ⟨_, _, _, h4⟩ := h
  rcases h4 with ⟨_, h5, h6⟩ | ⟨_, h6⟩
  · obtain ⟨u, w', he, hr⟩ := yields_exists (h6 w hc (fun k _ => hf k))
    subst h5
    exact ⟨u, w', hC _ _ hc (hLe _ _ he), hr, hT _ _ ht he, fun k => hF k _ _ (hf k) (hLe _ _ he)⟩
  · obtain ⟨u, w', he, hr, ht'⟩ := yields_exists (h6 w hc ht (fun k _ => hf k))
    exact ⟨u, w', hC _ _ hc he, hr, ht', fun k => hF k _ _ (hf k) he⟩

theorem up_add {F : Env} {i : Nat} {p : World → Prop} (hF : ∀ k, Up Le (F k)) (hp : Up Le p) : ∀ k, Up Le (addE F i p k) := fun k w w' h hle => ⟨hF k w w' h.1 hle, fun e => hp w w' (h.2 e) hle⟩

theorem firstS {n i : Nat} {oi : Oper} {L : Array Bool → Act → World → Prop} (hi : ops[i]? = some oi) (hin : i < n) (hsel : ∀ (j : Nat) (o : Oper) cs b, ops[j]? = some o → o.op ≠ .select cs b)
    (hb : befOk ops = true) (hbi : befIn ops = true) (htail : ∀ t, n ≤ t → t < ops.size → ∀ k, k < n → bef ops t k = true)
    (hLe : ∀ w w', Ext w w' → Le w w') (hC : Up Le C) :
    ∀ (fuel : Nat) (listed : Array Bool) (T : World → Prop) (F : Env) (a : Act), closed ops listed →
      (∀ j oj, ops[j]? = some oj → j ≠ i → listed.getD j true = false → (∀ e ∈ oj.after, Region.binds .any e = true → e.on ≠ i) → oi.apart ops oj = true) →
      i ∈ Region.ready .any ops listed → (∃ w, C w ∧ T w ∧ ∀ k, F k w) → Up Ext T → (∀ k, Up Le (F k)) →
      ((∃ v, validS P ops C i oi F a v ∧ wpAnyS P ops C Le n L fuel (listed.setIfInBounds i true) T F (a.put oi.dst v)) ∨
       ((∀ j, listed.getD j true = false → j ≠ i → isCallAt ops j = true → bef ops j i = true) ∧
        ∃ R T', validM P ops C Le i oi T F a R T' ∧ ∀ u, real C F R T' u → wpAnyS P ops C Le n L fuel (listed.setIfInBounds i true) (T' u) (addE F i (R u)) (a.put oi.dst u))) →
      wpAnyS P ops C Le n L (fuel + 1) listed T F a := by
  intro fuel
  induction fuel with
  | zero =>
    intro listed T F a hcl _ hr hcons hT hF H
    have hun := (mem_ready.1 hr).1
    refine ⟨fun h => (by rw [h] at hr; cases hr), fun j hj => ?_⟩
    have hjn : j < n := by
      rcases Nat.lt_or_ge j n with h | h
      · exact h
      · obtain ⟨_, oj, hoj, _⟩ := mem_ready.1 hj
        have h1 := htail j h (Array.getElem?_eq_some_iff.1 hoj).1 i hin
        rw [bef_ready hb hbi hcl hj hun] at h1; cases h1
    refine ⟨hjn, ?_⟩
    by_cases hji : j = i
    · subst hji
      refine ⟨oi, hi, ?_⟩
      rcases H with ⟨v, h1, h2⟩ | ⟨_, R, T', h1, h2⟩
      · exact .inl ⟨v, h1, h2⟩
      · exact .inr ⟨R, T', h1, h2⟩
    · exfalso
      have h3 := ready_mono hj hji
      rcases H with ⟨v, h1, h2⟩ | ⟨_, R, T', h1, h2⟩
      · have := h2.1 j h3; omega
      · obtain ⟨u, hu⟩ := real_some hLe hC hT hF hcons h1
        have := (h2 u hu).1 j h3; omega
  | succ fuel ih =>
    intro listed T F a hcl hfree hr hcons hT hF H
    have hun := (mem_ready.1 hr).1
    refine ⟨fun h => (by rw [h] at hr; cases hr), fun j hj => ?_⟩
    have hjn : j < n := by
      rcases Nat.lt_or_ge j n with h | h
      · exact h
      · obtain ⟨_, oj, hoj, _⟩ := mem_ready.1 hj
        have h1 := htail j h (Array.getElem?_eq_some_iff.1 hoj).1 i hin
        rw [bef_ready hb hbi hcl hj hun] at h1; cases h1
    refine ⟨hjn, ?_⟩
    by_cases hji : j = i
    · subst hji
      refine ⟨oi, hi, ?_⟩
      rcases H with ⟨v, h1, h2⟩ | ⟨_, R, T', h1, h2⟩
      · exact .inl ⟨v, h1, h2⟩
      · exact .inr ⟨R, T', h1, h2⟩
    · obtain ⟨hjun, oj, hoj, hall⟩ := mem_ready.1 hj
      have hnot : ∀ e ∈ oj.after, Region.binds .any e = true → e.on ≠ i := fun e he hb' heq => by
        have h1 := hall e he hb'
        rw [heq, getD_both hun] at h1
        cases h1
      have hap := hfree j oj hoj hji hjun hnot
      obtain ⟨ap1, ap2, ap3⟩ := Oper.apart_spec hap
      have hsi := fun cs b => hsel i oi cs b hi
      have hsj := fun cs b => hsel j oj cs b hoj
      have hfree' : ∀ k ok, ops[k]? = some ok → k ≠ i → (listed.setIfInBounds j true).getD k true = false →
          (∀ e ∈ ok.after, Region.binds .any e = true → e.on ≠ i) → oi.apart ops ok = true := fun k ok hk hki hun' hno => by
        refine hfree k ok hk hki ?_ hno
        by_cases hjk : j = k
        · subst hjk; exact hjun
        · rw [getD_set_ne true hjk] at hun'; exact hun'
      have hcl' := closed_set hcl hj
      have hr' := ready_mono hr (Ne.symm hji)
      have hcomm := Array.setIfInBounds_comm true true (xs := listed) hji
      rcases H with ⟨v, hv, H⟩ | ⟨hst, R, T', hM, H⟩
      · have h1 := (H.2 j (ready_mono hj hji)).2
        refine sOp_putS hoj hap hsj (fun T' p u hT' hp hc hk => ?_) (fun u hk => ?_) h1
        · refine ih _ T' (addE F j p) (a.put oj.dst u) hcl' hfree' hr' ?_ hT' (up_add hF hp) (.inl ⟨v, validS_put hsi ap3 (fun _ _ h => h.1) hv, ?_⟩)
          · obtain ⟨w, c1, c2, c3, c4⟩ := hc
            exact ⟨w, c1, c3, fun k => ⟨c4 k, fun _ => c2⟩⟩
          · rw [hcomm, ← Act.put_comm a v u ap2]; exact hk
        · refine ih _ T F (a.put oj.dst u) hcl' hfree' hr' hcons hT hF (.inl ⟨v, validS_put hsi ap3 (fun _ _ h => h) hv, ?_⟩)
          rw [hcomm, ← Act.put_comm a v u ap2]; exact hk
      · have hnc : isCallB oj.op = false := by
          cases hcb : isCallB oj.op with
          | false => rfl
          | true =>
            have h2 := hst j hjun hji (by unfold isCallAt; rw [hoj]; exact hcb)
            rw [bef_ready hb hbi hcl hj hun] at h2; cases h2
        have hst' : ∀ k, (listed.setIfInBounds j true).getD k true = false → k ≠ i → isCallAt ops k = true → bef ops k i = true := fun k hk hki hck => by
          refine hst k ?_ hki hck
          by_cases hjk : j = k
          · subst hjk; exact hjun
          · rw [getD_set_ne true hjk] at hk; exact hk
        obtain ⟨u0, hu0⟩ := real_some hLe hC hT hF hcons hM
        cases hwj : Region.wanted oj (yielded ops a.tmps) with
        | false =>
          refine ⟨oj, hoj, .inl ⟨undef, .inl ⟨hwj, rfl⟩, ?_⟩⟩
          refine ih _ T F (a.put oj.dst undef) hcl' hfree' hr' hcons hT hF (.inr ⟨hst', R, T', validM_put hsi ap3 (fun _ _ h => h) hM, fun u hu => ?_⟩)
          obtain ⟨o', ho', h⟩ := ((H u hu).2 j (ready_mono hj hji)).2
          have : o' = oj := Option.some.inj (ho'.symm.trans hoj)
          subst this
          have hw := wanted_put o' a oi.dst u ap1
          rcases h with ⟨x, hx, hk⟩ | ⟨_, _, ⟨hx, _⟩, _⟩
          · rcases hx with ⟨_, hx⟩ | ⟨hx, _⟩
            · subst hx
              rw [hcomm, ← Act.put_comm a u undef ap2]; exact hk
            · rw [hw, hwj] at hx; cases hx
          · rw [hw, hwj] at hx; cases hx
        | true =>
          have hall2 : ∀ x : { u // real C F R T' u }, ∃ q : Value → World → Prop, (∀ u, Up Le (q u)) ∧ (∀ w, C w → seen ops j (addE F i (R x.1)) w → yields P oj (a.put oi.dst x.1) w (fun u w' => Ext w w' ∧ q u w')) ∧
              ∀ u, real C (addE F i (R x.1)) q (fun _ => T' x.1) u → wpAnyS P ops C Le n L fuel ((listed.setIfInBounds i true).setIfInBounds j true) (T' x.1) (addE (addE F i (R x.1)) j (q u)) ((a.put oi.dst x.1).put oj.dst u) := fun x =>
            sOp_multi hoj (by rw [wanted_put oj a oi.dst x.1 ap1]; exact hwj) hnc (fun T G G' a hG hk => wpAnyS_mono _ _ T G G' a hG hk) ((H x.1 x.2).2 j (ready_mono hj hji)).2
          obtain ⟨q, hq⟩ := Classical.axiomOfChoice hall2
          have hne : Nonempty { u // real C F R T' u } := ⟨⟨u0, hu0⟩⟩
          have hbf := bef_ready hb hbi hcl hj hun
          refine ⟨oj, hoj, .inr ⟨fun u w => ∀ x, q x u w, fun _ => T, ⟨hwj, fun u w w' h hle x => (hq x).1 u w w' (h x) hle, fun _ => hT, .inl ⟨hnc, rfl, fun w hc hs => ?_⟩⟩, fun u hu => ?_⟩⟩
          · have h5 := yields_all (I := { u // real C F R T' u }) (p := fun x u w' => Ext w w' ∧ q x u w') hnc (fun x => by
              have := (hq x).2.1 w hc (seen_far hbf hs)
              rw [yields_put hsj a oi.dst x.1 ap1] at this
              exact this)
            exact yields_mono h5 fun u w' h => ⟨(h ⟨u0, hu0⟩).1, fun x => (h x).2⟩
          · refine ih _ T (addE F j (fun w => ∀ x, q x u w)) (a.put oj.dst u) hcl' hfree' hr' ?_ hT (up_add hF (fun w w' h hle x => (hq x).1 u w w' (h x) hle)) (.inr ⟨hst', R, T', validM_put hsi ap3 (fun _ _ h => h.1) hM, fun v hv => ?_⟩)
            · obtain ⟨w, c1, c2, c3, c4⟩ := hu
              exact ⟨w, c1, c3, fun k => ⟨c4 k, fun _ => c2⟩⟩
            · obtain ⟨w, c1, c2, c3, c4⟩ := hv
              have hv' : real C F R T' v := ⟨w, c1, c2, c3, fun k => (c4 k).1⟩
              have hk := (hq ⟨v, hv'⟩).2.2 u ⟨w, c1, (c4 j).2 rfl ⟨v, hv'⟩, c3, fun k => ⟨(c4 k).1, fun _ => c2⟩⟩
              rw [hcomm, ← Act.put_comm a v u ap2]
              refine wpAnyS_mono _ _ _ _ _ _ (fun k w h => ?_) hk
              exact ⟨⟨h.1.1, h.2⟩, fun e => h.1.2 e ⟨v, hv'⟩⟩

theorem wpAny_of_S {n g : Nat} {L : Array Bool → Act → World → Prop} {Q' : Exit → Act → World → Prop} (hL : ∀ listed a w, L listed a w → wpAny P .any ops Q' g listed a w) (hLe : ∀ w w', Ext w w' → Le w w') (hC : Up Le C) :
    ∀ (fuel : Nat) (listed : Array Bool) (T : World → Prop) (F : Env) (a : Act) (w : World), C w → T w → (∀ k, F k w) → Up Ext T → (∀ k, Up Le (F k)) →
      wpAnyS P ops C Le n L fuel listed T F a → wpAny P .any ops Q' (fuel + g) listed a w
  | 0, listed, T, F, a, w, hc, ht, hf, _, _, h => by rw [Nat.zero_add]; exact hL _ _ _ (h.2 w hc ht hf)
  | fuel + 1, listed, T, F, a, w, hc, ht, hf, hT, hF, h => by
    rw [show fuel + 1 + g = (fuel + g) + 1 by omega]
    refine ⟨fun h0 => absurd h0 h.1, fun i hi => ?_⟩
    obtain ⟨o, ho, hs⟩ := (h.2 i hi).2
    unfold wpOp
    simp only [ho]
    rcases hs with ⟨v, hv, hk⟩ | ⟨R, T', ⟨hw, hu1, hu2, hy⟩, hk⟩
    · rcases hv with ⟨hw, rfl⟩ | ⟨hw, _, h3⟩
      · simp only [hw, Bool.false_eq_true, if_false]
        exact wpAny_of_S hL hLe hC fuel _ T F _ w hc ht hf hT hF hk
      · simp only [hw, if_true]
        exact .inl (wp_of_yields (h3 w hc (fun k _ => hf k)) fun u w' ⟨he, hu⟩ => by
          rw [hu]
          exact wpAny_of_S hL hLe hC fuel _ T F _ w' (hC _ _ hc (hLe _ _ he)) (hT _ _ ht he) (fun k => hF k _ _ (hf k) (hLe _ _ he)) hT hF hk)
    · simp only [hw, if_true]
      rcases hy with ⟨_, h5, h6⟩ | ⟨_, h6⟩
      · subst h5
        exact .inl (wp_of_yields (h6 w hc (fun k _ => hf k)) fun u w' ⟨he, hr⟩ => by
          have c1 := hC _ _ hc (hLe _ _ he)
          have c2 := hT _ _ ht he
          have c3 := fun k => hF k _ _ (hf k) (hLe _ _ he)
          exact wpAny_of_S hL hLe hC fuel _ T _ _ w' c1 c2 (fun k => ⟨c3 k, fun _ => hr⟩) hT (up_add hF (hu1 u)) (hk u ⟨w', c1, hr, c2, c3⟩))
      · exact .inl (wp_of_yields (h6 w hc ht (fun k _ => hf k)) fun u w' ⟨he, hr, ht'⟩ => by
          have c1 := hC _ _ hc he
          have c3 := fun k => hF k _ _ (hf k) he
          exact wpAny_of_S hL hLe hC fuel _ (T' u) _ _ w' c1 ht' (fun k => ⟨c3 k, fun _ => hr⟩) (hu2 u) (up_add hF (hu1 u)) (hk u ⟨w', c1, hr, ht', c3⟩))

/-! ### The checks, all closed facts -/

def chkAt (ops : Array Oper) (listed : Array Bool) (i : Nat) : Bool := (List.range ops.size).all fun j => listed.getD j true || j == i || !isCallAt ops j || bef ops j i
/-- Each of 'ord' may come up, and may be taken first; a call is waited for by every call that is still to come; 'rest' is what is still to come. -/
def ordOk (ops : Array Oper) (n : Nat) : List Nat → Array Bool → Bool
  | [], listed => (Region.ready .any ops listed).all fun j => decide (n ≤ j)
  | i :: rest, listed => decide (i < n) && (Region.ready .any ops listed).contains i && Region.free .any ops listed i && (!isCallAt ops i || chkAt ops listed i)
      && ((List.range ops.size).all fun j => listed.getD j true || j == i || !isCallAt ops j || rest.contains j || bef ops j i) && ordOk ops n rest (listed.setIfInBounds i true)
def chainOk (ops : Array Oper) : List Nat → Array Bool → Bool
  | [], listed => (Region.ready .any ops listed).isEmpty
  | t :: rest, listed => (Region.ready .any ops listed == [t]) && chainOk ops rest (listed.setIfInBounds t true)
def listedOf (ops : Array Oper) (ord : List Nat) : Array Bool := ord.foldl (fun l i => l.setIfInBounds i true) (Array.replicate ops.size false)
def tailOf (ops : Array Oper) (n : Nat) : List Nat := List.range' n (ops.size - n)
def stabOk (ops : Array Oper) (n : Nat) (ord : List Nat) : Bool :=
  Region.noSelect ops && befOk ops && befIn ops && ((List.range ops.size).all fun t => decide (t < n) || (List.range n).all fun k => bef ops t k) &&
  ordOk ops n ord (Array.replicate ops.size false) && chainOk ops (tailOf ops n) (listedOf ops ord) && (ord.length + (tailOf ops n).length == ops.size)

theorem wpAny_chain {Q : Exit → Act → World → Prop} : ∀ (tl : List Nat) (listed : Array Bool) (a : Act) (w : World), chainOk ops tl listed = true → wpOps P ops Q tl a w → wpAny P .any ops Q tl.length listed a w
  | [], listed, a, w, hc, h => ⟨by simpa [chainOk] using hc, h⟩
  | t :: rest, listed, a, w, hc, h => by
    simp only [chainOk, Bool.and_eq_true, beq_iff_eq] at hc
    rw [wpOps_cons] at h
    refine ⟨fun h0 => (by rw [hc.1] at h0; cases h0), fun i hi => ?_⟩
    rw [hc.1] at hi
    have : i = t := by simpa using hi
    subst this
    exact wpOp_mono (fun a w h => wpAny_chain rest _ a w hc.2 h) h

theorem wpAnyS_of_wpS {n : Nat} {Q : Act → World → Prop} {L : Array Bool → Act → World → Prop} (hsel : ∀ (j : Nat) (o : Oper) cs b, ops[j]? = some o → o.op ≠ .select cs b)
    (hb : befOk ops = true) (hbi : befIn ops = true) (htail : ∀ t, n ≤ t → t < ops.size → ∀ k, k < n → bef ops t k = true)
    (hLe : ∀ w w', Ext w w' → Le w w') (hC : Up Le C) :
    ∀ (ord : List Nat) (listed : Array Bool) (T : World → Prop) (F : Env) (a : Act), closed ops listed → ordOk ops n ord listed = true → (∃ w, C w ∧ T w ∧ ∀ k, F k w) → Up Ext T → (∀ k, Up Le (F k)) →
      (∀ a w, Q a w → L (ord.foldl (fun l i => l.setIfInBounds i true) listed) a w) →
      wpS P ops C Le Q ord T F a → wpAnyS P ops C Le n L ord.length listed T F a
  | [], listed, T, F, a, _, hord, _, _, _, hQ, h => ⟨by simpa [ordOk] using hord, fun w hc ht hf => hQ _ _ (h w hc ht hf)⟩
  | i :: rest, listed, T, F, a, hcl, hord, hcons, hT, hF, hQ, h => by
    simp only [ordOk, Bool.and_eq_true, decide_eq_true_eq] at hord
    obtain ⟨⟨⟨⟨⟨hin, hr⟩, hfree⟩, hcall⟩, hrest⟩, hord⟩ := hord
    have hr : i ∈ Region.ready .any ops listed := by simpa using hr
    obtain ⟨o, ho, h⟩ := h
    have hcl' := closed_set hcl hr
    have hstep : ∀ T' F' a', (∃ w, C w ∧ T' w ∧ ∀ k, F' k w) → Up Ext T' → (∀ k, Up Le (F' k)) → wpS P ops C Le Q rest T' F' a' → wpAnyS P ops C Le n L rest.length (listed.setIfInBounds i true) T' F' a' :=
      fun T' F' a' h1 h2 h3 h4 => wpAnyS_of_wpS hsel hb hbi htail hLe hC rest _ T' F' a' hcl' hord h1 h2 h3 hQ h4
    refine firstS ho hin hsel hb hbi htail hLe hC rest.length listed T F a hcl (Region.free_spec ho hfree) hr hcons hT hF ?_
    rcases h with ⟨v, hv, hk⟩ | ⟨hchk, R, T', hM, hk⟩
    · exact .inl ⟨v, hv, hstep _ _ _ hcons hT hF hk⟩
    · refine .inr ⟨fun j hj hji hcj => ?_, R, T', hM, fun u hu => hstep _ _ _ ?_ (hM.2.2.1 u) (up_add hF (hM.2.1 u)) (hk u hu)⟩
      · have hjs : j < ops.size := by
          unfold isCallAt at hcj
          split at hcj
          · rename_i o' ho'; exact (Array.getElem?_eq_some_iff.1 ho').1
          · cases hcj
        have h1 := List.all_eq_true.1 hrest j (List.mem_range.2 hjs)
        simp only [hj, hcj, Bool.not_true, Bool.or_false, Bool.false_or, Bool.or_eq_true, beq_iff_eq, hji, false_or] at h1
        rcases h1 with h1 | h1
        · have h2 := List.all_eq_true.1 hchk j (by simpa using h1)
          simpa [hcj] using h2
        · exact h1
      · obtain ⟨w, c1, c2, c3, c4⟩ := hu
        exact ⟨w, c1, c3, fun k => ⟨c4 k, fun _ => c2⟩⟩

theorem wp_region_stab {id : Nat} {Q : Exit → Act → World → Prop} {a : Act} {w : World} (n : Nat) (ord : List Nat) (Le : World → World → Prop) (C T : World → Prop) (hm : P.follows .mixedOrders = true) (hok : stabOk ops n ord = true)
    (hLe : ∀ w w', Ext w w' → Le w w') (hC : Up Le C) (hT : Up Ext T) (hCw : C w.drew) (hTw : T w.drew)
    (h : wpS P ops C Le (wpOps P ops Q (tailOf ops n)) ord T (fun _ _ => True) a) : (Code.region id ops true).wp P Q a w := by
  simp only [stabOk, Bool.and_eq_true, beq_iff_eq] at hok
  obtain ⟨⟨⟨⟨⟨⟨h1, h2⟩, h3⟩, h4⟩, h5⟩, h6⟩, h7⟩ := hok
  have htail : ∀ t, n ≤ t → t < ops.size → ∀ k, k < n → bef ops t k = true := fun t ht hts k hk => by
    have h8 := List.all_eq_true.1 h4 t (List.mem_range.2 hts)
    simp only [Bool.or_eq_true, decide_eq_true_eq] at h8
    rcases h8 with h8 | h8
    · omega
    · exact List.all_eq_true.1 h8 k (List.mem_range.2 hk)
  have hcl : closed ops (Array.replicate ops.size false) := ⟨by simp, fun j oj _ hl => by
    exfalso
    rcases Nat.lt_or_ge j ops.size with h | h
    · simp [h] at hl
    · simp [h] at hl⟩
  have hS := wpAnyS_of_wpS (L := fun listed a w => listed = listedOf ops ord ∧ wpOps P ops Q (tailOf ops n) a w) (Region.noSelect_spec h1) h2 h3 htail hLe hC ord _ T (fun _ _ => True) a hcl h5 ⟨w.drew, hCw, hTw, fun _ => trivial⟩ hT (fun _ _ _ _ _ => trivial) (fun a w hq => ⟨rfl, hq⟩) h
  have hA := wpAny_of_S (g := (tailOf ops n).length) (L := fun listed a w => listed = listedOf ops ord ∧ wpOps P ops Q (tailOf ops n) a w) (fun listed a w hl => by obtain ⟨rfl, hl⟩ := hl; exact wpAny_chain _ _ a w h6 hl) hLe hC ord.length _ T _ a w.drew hCw hTw (fun _ => trivial) hT (fun _ _ _ _ _ => trivial) hS
  rw [h7] at hA
  exact wp_region_any hm hA

/-! ### The walk over operations that are written out -/
def wpX (P : Program) (ops : Array Oper) (C : World → Prop) (Le : World → World → Prop) (Q : Act → World → Prop) : List (Nat × Oper) → (World → Prop) → Env → Act → Prop
  | [], T, F, a => ∀ w, C w → T w → (∀ k, F k w) → Q a w
  | (i, o) :: rest, T, F, a =>
    (∃ v, validS P ops C i o F a v ∧ wpX P ops C Le Q rest T F (a.put o.dst v)) ∨
     (((rest.map Prod.fst).all fun j => !isCallAt ops j || bef ops j i) = true ∧
      ∃ R T', validM P ops C Le i o T F a R T' ∧ ∀ u, real C F R T' u → wpX P ops C Le Q rest (T' u) (addE F i (R u)) (a.put o.dst u))
def zipL : Nat → List Oper → List (Nat × Oper)
  | _, [] => []
  | k, o :: l => (k, o) :: zipL (k + 1) l
def pickL (ops : List Oper) : List Nat → List (Nat × Oper)
  | [] => []
  | i :: l => match ops[i]? with | some o => (i, o) :: pickL ops l | none => pickL ops l

theorem wpS_of_wpX {Q : Act → World → Prop} : ∀ (l : List (Nat × Oper)) (T : World → Prop) (F : Env) (a : Act), (∀ p, p ∈ l → ops[p.1]? = some p.2) → wpX P ops C Le Q l T F a → wpS P ops C Le Q (l.map Prod.fst) T F a
  | [], _, _, _, _, h => h
  | (i, o) :: rest, T, F, a, hl, h => by
    have h0 := hl (i, o) (by simp)
    have hr : ∀ p, p ∈ rest → ops[p.1]? = some p.2 := fun p hp => hl p (by simp [hp])
    refine ⟨o, h0, ?_⟩
    rcases h with ⟨v, hv, hk⟩ | ⟨hc, R, T', hM, hk⟩
    · exact .inl ⟨v, hv, wpS_of_wpX rest _ _ _ hr hk⟩
    · exact .inr ⟨hc, R, T', hM, fun u hu => wpS_of_wpX rest _ _ _ hr (hk u hu)⟩

theorem zipL_mem : ∀ (l : List Oper) (k : Nat), (∀ j, j < l.length → l[j]? = ops[k + j]?) → ∀ p, p ∈ zipL k l → ops[p.1]? = some p.2
  | [], _, _, _, hp => by cases hp
  | o :: l, k, h, p, hp => by
    cases hp with
    | head => simpa using (h 0 (by simp)).symm
    | tail _ hp => exact zipL_mem l (k + 1) (fun j hj => by have := h (j + 1) (by simpa using hj); simpa [Nat.add_assoc, Nat.add_comm 1 j] using this) p hp
theorem zipL_fst : ∀ (l : List Oper) (k : Nat), (zipL k l).map Prod.fst = List.range' k l.length
  | [], _ => rfl
  | o :: l, k => by simp [zipL, zipL_fst l (k + 1), List.range'_succ]
theorem pickL_mem (ops : List Oper) : ∀ (l : List Nat) (p : Nat × Oper), p ∈ pickL ops l → ops.toArray[p.1]? = some p.2
  | [], _, hp => by cases hp
  | i :: l, p, hp => by
    simp only [pickL] at hp
    split at hp
    · rename_i o ho
      cases hp with
      | head => simpa using ho
      | tail _ hp => exact pickL_mem ops l p hp
    · exact pickL_mem ops l p hp

/-- In the order of the text, no tail. -/
theorem wp_region_lex {id : Nat} {Q : Exit → Act → World → Prop} {a : Act} {w : World} {l : List Oper} (Le : World → World → Prop) (C T : World → Prop) (hm : P.follows .mixedOrders = true) (hok : stabOk l.toArray l.length (List.range' 0 l.length) = true)
    (hLe : ∀ w w', Ext w w' → Le w w') (hC : Up Le C) (hT : Up Ext T) (hCw : C w.drew) (hTw : T w.drew)
    (h : wpX P l.toArray C Le (Q .normal) (zipL 0 l) T (fun _ _ => True) a) : (Code.region id l.toArray true).wp P Q a w := by
  refine wp_region_stab l.length (List.range' 0 l.length) Le C T hm hok hLe hC hT hCw hTw ?_
  have h1 := wpS_of_wpX (zipL 0 l) T (fun _ _ => True) a (zipL_mem l 0 (by simp)) h
  rw [zipL_fst] at h1
  have h2 : tailOf l.toArray l.length = [] := by simp [tailOf]
  rw [h2]
  exact h1

/-- In the order of the text, the operations from number n on in their forced order. -/
theorem wp_region_lexTail {id : Nat} {Q : Exit → Act → World → Prop} {a : Act} {w : World} {l : List Oper} (n : Nat) (Le : World → World → Prop) (C T : World → Prop) (hm : P.follows .mixedOrders = true) (hok : (decide (n ≤ l.length) && stabOk l.toArray n (List.range' 0 n)) = true)
    (hLe : ∀ w w', Ext w w' → Le w w') (hC : Up Le C) (hT : Up Ext T) (hCw : C w.drew) (hTw : T w.drew)
    (h : wpX P l.toArray C Le (wpList P l.toArray Q (l.drop n)) (zipL 0 (l.take n)) T (fun _ _ => True) a) : (Code.region id l.toArray true).wp P Q a w := by
  simp only [Bool.and_eq_true, decide_eq_true_eq] at hok
  refine wp_region_stab n (List.range' 0 n) Le C T hm hok.2 hLe hC hT hCw hTw ?_
  have h1 := wpS_of_wpX (zipL 0 (l.take n)) T (fun _ _ => True) a (zipL_mem (l.take n) 0 (fun j hj => by
    have : j < n := by simp at hj; omega
    simp [this])) h
  rw [zipL_fst] at h1
  have h2 : (l.take n).length = n := by simp; omega
  rw [h2] at h1
  have h3 := wpOps_eq_wpList (P := P) (ops := l.toArray) (Q := Q) (l.drop n) n (fun j => by simp)
  have h4 : tailOf l.toArray n = List.range' n (l.drop n).length := by simp [tailOf]
  rw [h4, h3]
  exact h1

/-- In an order of one's own; no tail. -/
theorem wp_region_ord {id : Nat} {Q : Exit → Act → World → Prop} {a : Act} {w : World} {l : List Oper} (ord : List Nat) (Le : World → World → Prop) (C T : World → Prop) (hm : P.follows .mixedOrders = true) (hok : (decide ((pickL l ord).map Prod.fst = ord) && stabOk l.toArray l.length ord) = true)
    (hLe : ∀ w w', Ext w w' → Le w w') (hC : Up Le C) (hT : Up Ext T) (hCw : C w.drew) (hTw : T w.drew)
    (h : wpX P l.toArray C Le (Q .normal) (pickL l ord) T (fun _ _ => True) a) : (Code.region id l.toArray true).wp P Q a w := by
  simp only [Bool.and_eq_true, decide_eq_true_eq] at hok
  refine wp_region_stab l.length ord Le C T hm hok.2 hLe hC hT hCw hTw ?_
  have h1 := wpS_of_wpX (pickL l ord) T (fun _ _ => True) a (pickL_mem l ord) h
  rw [hok.1] at h1
  have h2 : tailOf l.toArray l.length = [] := by simp [tailOf]
  rw [h2]
  exact h1

section
variable {Q : Act → World → Prop} {i : Nat} {rest : List (Nat × Oper)} {T : World → Prop} {F : Env} {a : Act} {o : Oper}
theorem wpX_end (h : ∀ w, C w → T w → (∀ k, F k w) → Q a w) : wpX P ops C Le Q [] T F a := h
theorem wpX_move {x : Operand} {dst : Option Tmp} {ty : TypeId} {pos : String} {after : Array Edge} {guard : Option (Nat × Bool)} (hw : Region.wanted ⟨dst, .move x, ty, pos, after, guard⟩ (yielded ops a.tmps) = true) (h : wpX P ops C Le Q rest T F (a.put dst (a.eval x))) : wpX P ops C Le Q ((i, ⟨dst, .move x, ty, pos, after, guard⟩) :: rest) T F a :=
  .inl ⟨_, .inr ⟨hw, rfl, fun w _ _ => by unfold yields; simp only [execOp]; exact ⟨Ext.refl _, rfl⟩⟩, h⟩
theorem wpX_val (hw : Region.wanted o (yielded ops a.tmps) = true) (hn : isCallB o.op = false)
    (h : ∃ v, (∀ w, C w → seen ops i F w → yields P o a w (fun u w' => Ext w w' ∧ u = v)) ∧ wpX P ops C Le Q rest T F (a.put o.dst v)) : wpX P ops C Le Q ((i, o) :: rest) T F a :=
  let ⟨v, hy, h⟩ := h
  .inl ⟨v, .inr ⟨hw, hn, hy⟩, h⟩
theorem wpX_skip (hw : Region.wanted o (yielded ops a.tmps) = false)
    (h : wpX P ops C Le Q rest T F (a.put o.dst undef)) : wpX P ops C Le Q ((i, o) :: rest) T F a :=
  .inl ⟨undef, .inl ⟨hw, rfl⟩, h⟩
theorem wpX_new (R : Value → World → Prop) (hw : Region.wanted o (yielded ops a.tmps) = true) (hn : isCallB o.op = false)
    (hc : ((rest.map Prod.fst).all fun j => !isCallAt ops j || bef ops j i) = true) (hu : ∀ u, Up Le (R u)) (hT : Up Ext T)
    (hy : ∀ w, C w → seen ops i F w → yields P o a w (fun u w' => Ext w w' ∧ R u w')) (h : ∀ u, real C F R (fun _ => T) u → wpX P ops C Le Q rest T (addE F i (R u)) (a.put o.dst u)) : wpX P ops C Le Q ((i, o) :: rest) T F a :=
  .inr ⟨hc, R, fun _ => T, ⟨hw, hu, fun _ => hT, .inl ⟨hn, rfl, hy⟩⟩, h⟩
theorem wpX_call (R T' : Value → World → Prop) (hw : Region.wanted o (yielded ops a.tmps) = true) (hn : isCallB o.op = true)
    (hc : ((rest.map Prod.fst).all fun j => !isCallAt ops j || bef ops j i) = true) (hu : ∀ u, Up Le (R u)) (hT : ∀ u, Up Ext (T' u))
    (hy : ∀ w, C w → T w → seen ops i F w → yields P o a w (fun u w' => Le w w' ∧ R u w' ∧ T' u w')) (h : ∀ u, real C F R T' u → wpX P ops C Le Q rest (T' u) (addE F i (R u)) (a.put o.dst u)) : wpX P ops C Le Q ((i, o) :: rest) T F a :=
  .inr ⟨hc, R, T', ⟨hw, hu, hT, .inr ⟨hn, hy⟩⟩, h⟩
end

theorem wpX_mono {Q : Act → World → Prop} : ∀ (l : List (Nat × Oper)) (T : World → Prop) (F F' : Env) (a : Act), (∀ k w, F' k w → F k w) → wpX P ops C Le Q l T F a → wpX P ops C Le Q l T F' a
  | [], T, F, F', a, hF, h => fun w hc ht hf => h w hc ht fun k => hF _ _ (hf k)
  | (i, o) :: rest, T, F, F', a, hF, h => by
    have hs : ∀ w, seen ops i F' w → seen ops i F w := fun w hw k hk => hF _ _ (hw k hk)
    rcases h with ⟨v, hv, hk⟩ | ⟨hc, R, T', ⟨hw, hu1, hu2, hy⟩, hk⟩
    · refine .inl ⟨v, ?_, wpX_mono rest _ _ _ _ hF hk⟩
      rcases hv with hv | ⟨h1, h2, h3⟩
      · exact .inl hv
      · exact .inr ⟨h1, h2, fun w hc hs' => h3 w hc (hs w hs')⟩
    · refine .inr ⟨hc, R, T', ⟨hw, hu1, hu2, ?_⟩, fun u hu => wpX_mono rest _ _ _ _ (fun k w h => ⟨hF _ _ h.1, h.2⟩) (hk u ?_)⟩
      · rcases hy with ⟨h1, h2, h3⟩ | ⟨h1, h2⟩
        · exact .inl ⟨h1, h2, fun w hc hs' => h3 w hc (hs w hs')⟩
        · exact .inr ⟨h1, fun w hc ht hs' => h2 w hc ht (hs w hs')⟩
      · obtain ⟨w, h1, h2, h3, h4⟩ := hu
        exact ⟨w, h1, h2, h3, fun k => hF _ _ (h4 k)⟩

/-- A call of one value. -/
theorem wpX_call1 {Q : Act → World → Prop} {i : Nat} {rest : List (Nat × Oper)} {T : World → Prop} {F : Env} {a : Act} {o : Oper} (hw : Region.wanted o (yielded ops a.tmps) = true) (hn : isCallB o.op = true)
    (hc : ((rest.map Prod.fst).all fun j => !isCallAt ops j || bef ops j i) = true) (hT : Up Ext T)
    (h : ∃ v, (∀ w, C w → T w → seen ops i F w → yields P o a w (fun u w' => Le w w' ∧ u = v ∧ T w')) ∧ wpX P ops C Le Q rest T F (a.put o.dst v)) : wpX P ops C Le Q ((i, o) :: rest) T F a :=
  let ⟨v, hy, h⟩ := h
  wpX_call (fun u _ => u = v) (fun _ => T) hw hn hc (fun u w w' h _ => h) (fun _ => hT) (fun w hc' ht hs => hy w hc' ht hs) (fun u ⟨w, _, hu, _, _⟩ => by subst hu; exact wpX_mono rest _ _ _ _ (fun k w h => h.1) h)

end

end Stab
end Go.Proofs.Ytbknabgimjkcoaa
