/-
  What was lent is written over: numbers, bytes.
  The document's net in memory.
  The document's copy of a letter.
-/
import Derived.Test.YtjnllilmimngoaaGreatDoorM21
import Derived.Test.YtjnllilmimngoaaGreatDoorM22
import Derived.Test.YtjnllilmimngoaaGreatDoorM30
import Derived.Test.YtjnllilmimngoaaGreatDoorM20
import Derived.Test.YtjnllilmimngoaaGreatDoorM29
import Derived.Test.YtjnllilmimngoaaGreatDoorM17
namespace Go.Proofs.YtjnllilmimngoaaGreatDoor
open Go.RowKit

def OvRel (sz g c m : Nat) (w : World) (i : Value) (wr : World) : Prop := ∃ k : Nat, k ≤ m ∧ i = .int .i64 k ∧ HasRow sz wr g c ∧ Fr (isB g) w wr
/-- No block changes its size. -/
def Sh (w w' : World) : Prop := ∀ (g : Nat) (cs : Array Value) (e : TypeId), w.heap[g]? = some (.cells cs e (0, 0)) → ∃ (cs' : Array Value) (e' : TypeId), w'.heap[g]? = some (.cells cs' e' (0, 0)) ∧ cs'.size = cs.size
theorem Sh.refl (w : World) : Sh w w := fun _ cs e h => ⟨cs, e, h, rfl⟩
theorem Sh.trans {a b c : World} (h : Sh a b) (k : Sh b c) : Sh a c := fun g cs e hg => by
  obtain ⟨cs1, e1, h1, h2⟩ := h g cs e hg
  obtain ⟨cs2, e2, h3, h4⟩ := k g cs1 e1 h1
  exact ⟨cs2, e2, h3, h4.trans h2⟩
theorem Sh.ext {w w' : World} (h : Ext w w') : Sh w w' := fun _ cs e hg => ⟨cs, e, h.blk hg, rfl⟩
theorem Sh.one {sz g c : Nat} {w w' : World} (h : HasRow sz w g c) (h' : HasRow sz w' g c) (hf : Fr (isB g) w w') : Sh w w' := fun i cs e hi => by
  by_cases hg : i = g
  · subst hg
    obtain ⟨cs0, e0, h1, h2⟩ := h
    obtain ⟨cs1, e1, h3, h4⟩ := h'
    rw [hi] at h1
    injection h1 with h1
    injection h1 with h1 _ _
    subst h1
    exact ⟨cs1, e1, h3, h4.trans h2.symm⟩
  · exact ⟨cs, e, (hf.block i (heap_lt hi) hg).trans hi, rfl⟩
theorem HasRow.sh {sz g c : Nat} {w w' : World} (h : HasRow sz w g c) (hs : Sh w w') : HasRow sz w' g c := by
  obtain ⟨cs, e, h1, h2⟩ := h
  obtain ⟨cs', e', h3, h4⟩ := hs g cs e h1
  exact ⟨cs', e', h3, h4.trans h2⟩
theorem HasRow.lt {sz g c : Nat} {w : World} (h : HasRow sz w g c) : g < w.heap.size := by
  obtain ⟨cs, e, h1, _⟩ := h
  exact heap_lt h1
def OvP (g : Nat) (w : World) (e : Ending) (w' : World) : Prop := e = .returned (.tuple #[]) ∧ Fr (isB g) w w' ∧ Sh w w'
set_option maxHeartbeats 600000 in
theorem overInts_any (g n c : Nat) (w : World) (h : HasRow 1 w g c) (hc : n + 12 ≤ c) (hn : n ≤ 1000000) :
    Calls Tryz.prog 149 #[.slice (some ⟨g, 0, none⟩) n c] w (OvP g w) := by
  have HH := Lib.hid h
  rcases Nat.lt_or_eq_of_le hc with h1 | rfl
  · have h1' : (n : Int) + 12 < (c : Int) := by omega
    go_enter Tryz.func149, Tryz.ntmps149
    go_wp2
    go_loopw [3] (fun i wr => OvRel 1 g c (n + 12) w i wr) (fun i _ => n + 12 - (intOf i).toNat)
    case atStart => exact ⟨0, Nat.zero_le _, rfl, h, Fr.refl _ _⟩
    case round =>
      clear h
      obtain ⟨k, hk, rfl, hr, hf⟩ := hrel
      by_cases hlt : k < n + 12
      · obtain ⟨⟨u, hu⟩, hz⟩ := hr.cell1 (k := k) (by omega)
        have HR := Lib.hid hr
        have HF := Lib.hid hf
        clear hr hf
        go_wp2_with (go_at_call 98; refine (mark_any 2 k _ (by omega) (by omega)).mono ?_; rintro e wq ⟨rfl, rfl⟩)
        go_roundw
        case rel => exact ⟨k + 1, by omega, by go_num, HR.out.stored (Stored.one _) (by omega) rfl, HF.out.set (p := ⟨g, k, none⟩) (.inl rfl) _⟩
        case measure => simp [intOf]; omega
      · obtain rfl : k = n + 12 := by omega
        go_wp2
        go_end0
        exact ⟨rfl, hf, Sh.one HH.out hr hf⟩
  · skip
    go_enter Tryz.func149, Tryz.ntmps149
    go_wp2
    go_loopw [3] (fun i wr => OvRel 1 g (n + 12) (n + 12) w i wr) (fun i _ => n + 12 - (intOf i).toNat)
    case atStart => exact ⟨0, Nat.zero_le _, rfl, h, Fr.refl _ _⟩
    case round =>
      clear h
      obtain ⟨k, hk, rfl, hr, hf⟩ := hrel
      by_cases hlt : k < n + 12
      · obtain ⟨⟨u, hu⟩, hz⟩ := hr.cell1 (k := k) (by omega)
        have HR := Lib.hid hr
        have HF := Lib.hid hf
        clear hr hf
        go_wp2_with (go_at_call 98; refine (mark_any 2 k _ (by omega) (by omega)).mono ?_; rintro e wq ⟨rfl, rfl⟩)
        go_roundw
        case rel => exact ⟨k + 1, by omega, by go_num, HR.out.stored (Stored.one _) (by omega) rfl, HF.out.set (p := ⟨g, k, none⟩) (.inl rfl) _⟩
        case measure => simp [intOf]; omega
      · obtain rfl : k = n + 12 := by omega
        go_wp2
        go_end0
        exact ⟨rfl, hf, Sh.one HH.out hr hf⟩
set_option maxHeartbeats 600000 in
theorem overLimbs_any (g n c : Nat) (w : World) (h : HasRow 1 w g c) (hc : n + 12 ≤ c) (hn : n ≤ 1000000) :
    Calls Tryz.prog 150 #[.slice (some ⟨g, 0, none⟩) n c] w (OvP g w) := by
  have HH := Lib.hid h
  rcases Nat.lt_or_eq_of_le hc with h1 | rfl
  · have h1' : (n : Int) + 12 < (c : Int) := by omega
    go_enter Tryz.func150, Tryz.ntmps150
    go_wp2
    go_loopw [3] (fun i wr => OvRel 1 g c (n + 12) w i wr) (fun i _ => n + 12 - (intOf i).toNat)
    case atStart => exact ⟨0, Nat.zero_le _, rfl, h, Fr.refl _ _⟩
    case round =>
      clear h
      obtain ⟨k, hk, rfl, hr, hf⟩ := hrel
      by_cases hlt : k < n + 12
      · obtain ⟨⟨u, hu⟩, hz⟩ := hr.cell1 (k := k) (by omega)
        have HR := Lib.hid hr
        have HF := Lib.hid hf
        clear hr hf
        go_wp2_with (go_at_call 98; refine (mark_any 2 k _ (by omega) (by omega)).mono ?_; rintro e wq ⟨rfl, rfl⟩)
        go_roundw
        case rel => exact ⟨k + 1, by omega, by go_num, HR.out.stored (Stored.one _) (by omega) rfl, HF.out.set (p := ⟨g, k, none⟩) (.inl rfl) _⟩
        case measure => simp [intOf]; omega
      · obtain rfl : k = n + 12 := by omega
        go_wp2
        go_end0
        exact ⟨rfl, hf, Sh.one HH.out hr hf⟩
  · skip
    go_enter Tryz.func150, Tryz.ntmps150
    go_wp2
    go_loopw [3] (fun i wr => OvRel 1 g (n + 12) (n + 12) w i wr) (fun i _ => n + 12 - (intOf i).toNat)
    case atStart => exact ⟨0, Nat.zero_le _, rfl, h, Fr.refl _ _⟩
    case round =>
      clear h
      obtain ⟨k, hk, rfl, hr, hf⟩ := hrel
      by_cases hlt : k < n + 12
      · obtain ⟨⟨u, hu⟩, hz⟩ := hr.cell1 (k := k) (by omega)
        have HR := Lib.hid hr
        have HF := Lib.hid hf
        clear hr hf
        go_wp2_with (go_at_call 98; refine (mark_any 2 k _ (by omega) (by omega)).mono ?_; rintro e wq ⟨rfl, rfl⟩)
        go_roundw
        case rel => exact ⟨k + 1, by omega, by go_num, HR.out.stored (Stored.one _) (by omega) rfl, HF.out.set (p := ⟨g, k, none⟩) (.inl rfl) _⟩
        case measure => simp [intOf]; omega
      · obtain rfl : k = n + 12 := by omega
        go_wp2
        go_end0
        exact ⟨rfl, hf, Sh.one HH.out hr hf⟩
set_option maxHeartbeats 600000 in
theorem overBytes_any (g n c : Nat) (w : World) (h : HasRow 1 w g c) (hc : n + 12 ≤ c) (hn : n ≤ 1000000) :
    Calls Tryz.prog 27 #[.slice (some ⟨g, 0, none⟩) n c] w (OvP g w) := by
  have HH := Lib.hid h
  rcases Nat.lt_or_eq_of_le hc with h1 | rfl
  · have h1' : (n : Int) + 12 < (c : Int) := by omega
    go_enter Tryz.func27, Tryz.ntmps27
    go_wp2
    go_loopw [3] (fun i wr => OvRel 1 g c (n + 12) w i wr) (fun i _ => n + 12 - (intOf i).toNat)
    case atStart => exact ⟨0, Nat.zero_le _, rfl, h, Fr.refl _ _⟩
    case round =>
      clear h
      obtain ⟨k, hk, rfl, hr, hf⟩ := hrel
      by_cases hlt : k < n + 12
      · obtain ⟨⟨u, hu⟩, hz⟩ := hr.cell1 (k := k) (by omega)
        have HR := Lib.hid hr
        have HF := Lib.hid hf
        clear hr hf
        go_wp2_with (go_at_call 58; refine (markByte_any 2 k _ (by omega) (by omega)).mono ?_; rintro e wq ⟨rfl, rfl⟩)
        go_roundw
        case rel => exact ⟨k + 1, by omega, by go_num, HR.out.stored (Stored.one _) (by omega) rfl, HF.out.set (p := ⟨g, k, none⟩) (.inl rfl) _⟩
        case measure => simp [intOf]; omega
      · obtain rfl : k = n + 12 := by omega
        go_wp2
        go_end0
        exact ⟨rfl, hf, Sh.one HH.out hr hf⟩
  · skip
    go_enter Tryz.func27, Tryz.ntmps27
    go_wp2
    go_loopw [3] (fun i wr => OvRel 1 g (n + 12) (n + 12) w i wr) (fun i _ => n + 12 - (intOf i).toNat)
    case atStart => exact ⟨0, Nat.zero_le _, rfl, h, Fr.refl _ _⟩
    case round =>
      clear h
      obtain ⟨k, hk, rfl, hr, hf⟩ := hrel
      by_cases hlt : k < n + 12
      · obtain ⟨⟨u, hu⟩, hz⟩ := hr.cell1 (k := k) (by omega)
        have HR := Lib.hid hr
        have HF := Lib.hid hf
        clear hr hf
        go_wp2_with (go_at_call 58; refine (markByte_any 2 k _ (by omega) (by omega)).mono ?_; rintro e wq ⟨rfl, rfl⟩)
        go_roundw
        case rel => exact ⟨k + 1, by omega, by go_num, HR.out.stored (Stored.one _) (by omega) rfl, HF.out.set (p := ⟨g, k, none⟩) (.inl rfl) _⟩
        case measure => simp [intOf]; omega
      · obtain rfl : k = n + 12 := by omega
        go_wp2
        go_end0
        exact ⟨rfl, hf, Sh.one HH.out hr hf⟩
set_option maxHeartbeats 600000 in
theorem overBytes_0 (A : Option Addr) (w : World) : Calls Tryz.prog 27 #[.slice A 0 0] w fun e w' => e = .returned (.tuple #[]) ∧ w = w' := by
  go_enter Tryz.func27, Tryz.ntmps27
  go_wp2
  go_loop [3] (fun i => i = .int .i64 0) (fun _ => 0)
  case atStart => rfl
  case round =>
    obtain rfl := hrel
    go_wp2
    go_end0
    exact ⟨rfl, rfl⟩
theorem infoOvIdents : (Tryz.prog.info? 26).map (·.size) = some 3 := by kernel_rfl
set_option maxRecDepth 100000 in
set_option maxHeartbeats 1000000 in
theorem overIdents_any (g c : Nat) (w : World) (h : HasRow 3 w g c) (hc : 12 ≤ c) :
    Calls Tryz.prog 116 #[.slice (some ⟨g, 0, none⟩) 0 c] w (OvP g w) := by
  have HH := Lib.hid h
  rcases Nat.lt_or_eq_of_le hc with h1 | rfl
  · have h1' : (12 : Int) < (c : Int) := by omega
    go_enter Tryz.func116, Tryz.ntmps116
    go_wp2
    go_loopw [3] (fun i wr => OvRel 3 g c 12 w i wr) (fun i _ => 12 - (intOf i).toNat)
    case atStart => exact ⟨0, Nat.zero_le _, rfl, HH.out, Fr.refl _ _⟩
    case round =>
      clear h
      obtain ⟨k, hk, rfl, hr, hf⟩ := hrel
      by_cases hlt : k < 12
      · have HR := Lib.hid hr
        have HF := Lib.hid hf
        clear hr hf
        go_wp2_with fail
        refine (markIdentK 2 k _ (by omega) (by omega)).mono ?_
        rintro ev w5 ⟨rfl, hE5⟩
        have HR5 := Lib.hid (HR.out.ext hE5)
        have HF5 := Lib.hid (HF.out.then hE5)
        clear hE5
        obtain ⟨cur, bt, hg5, hs5⟩ := HR5.out
        go_wp2_with (refine wpList_store_at rfl 26 bt _ _ rfl rfl g k 3 cur #[.int .i64 (markI 2 k), .int .i64 0, .int .i64 0] (by simp [Act.eval]) rfl hg5 infoOvIdents (by omega) rfl (by intro v hv; simp at hv; rcases hv with rfl | rfl | rfl <;> rfl) ?_; intro w6 hS6; have HS6 := Lib.hid hS6; clear hS6)
        go_roundw
        case rel => exact ⟨k + 1, by omega, by go_num, HR5.out.stored HS6.out (by omega) rfl, HF5.out.trans HS6.out.1 (fun _ _ t => t)⟩
        case measure => simp [intOf]; omega
      · obtain rfl : k = 12 := by omega
        go_wp2
        go_end0
        exact ⟨rfl, hf, Sh.one HH.out hr hf⟩
  · skip
    go_enter Tryz.func116, Tryz.ntmps116
    go_wp2
    go_loopw [3] (fun i wr => OvRel 3 g 12 12 w i wr) (fun i _ => 12 - (intOf i).toNat)
    case atStart => exact ⟨0, Nat.zero_le _, rfl, HH.out, Fr.refl _ _⟩
    case round =>
      clear h
      obtain ⟨k, hk, rfl, hr, hf⟩ := hrel
      by_cases hlt : k < 12
      · have HR := Lib.hid hr
        have HF := Lib.hid hf
        clear hr hf
        go_wp2_with fail
        refine (markIdentK 2 k _ (by omega) (by omega)).mono ?_
        rintro ev w5 ⟨rfl, hE5⟩
        have HR5 := Lib.hid (HR.out.ext hE5)
        have HF5 := Lib.hid (HF.out.then hE5)
        clear hE5
        obtain ⟨cur, bt, hg5, hs5⟩ := HR5.out
        go_wp2_with (refine wpList_store_at rfl 26 bt _ _ rfl rfl g k 3 cur #[.int .i64 (markI 2 k), .int .i64 0, .int .i64 0] (by simp [Act.eval]) rfl hg5 infoOvIdents (by omega) rfl (by intro v hv; simp at hv; rcases hv with rfl | rfl | rfl <;> rfl) ?_; intro w6 hS6; have HS6 := Lib.hid hS6; clear hS6)
        go_roundw
        case rel => exact ⟨k + 1, by omega, by go_num, HR5.out.stored HS6.out (by omega) rfl, HF5.out.trans HS6.out.1 (fun _ _ t => t)⟩
        case measure => simp [intOf]; omega
      · obtain rfl : k = 12 := by omega
        go_wp2
        go_end0
        exact ⟨rfl, hf, Sh.one HH.out hr hf⟩
theorem infoOvEntries : (Tryz.prog.info? 121).map (·.size) = some 4 := by kernel_rfl
set_option maxRecDepth 100000 in
set_option maxHeartbeats 1000000 in
theorem overEntries_any (g c : Nat) (w : World) (h : HasRow 4 w g c) (hc : 12 ≤ c) :
    Calls Tryz.prog 28 #[.slice (some ⟨g, 0, none⟩) 0 c] w (OvP g w) := by
  have HH := Lib.hid h
  rcases Nat.lt_or_eq_of_le hc with h1 | rfl
  · have h1' : (12 : Int) < (c : Int) := by omega
    go_enter Tryz.func28, Tryz.ntmps28
    go_wp2
    go_loopw [2] (fun i wr => i = .int .i64 0 ∧ w = wr) (fun _ _ => 0)
    case atStart => exact ⟨rfl, rfl⟩
    case round =>
    obtain ⟨rfl, rfl⟩ := hrel
    go_wp2
    go_loopw [4] (fun i wr => OvRel 4 g c 12 w i wr) (fun i _ => 12 - (intOf i).toNat)
    case atStart => exact ⟨0, Nat.zero_le _, rfl, HH.out, Fr.refl _ _⟩
    case round =>
      clear h
      obtain ⟨k, hk, rfl, hr, hf⟩ := hrel
      by_cases hlt : k < 12
      · have HR := Lib.hid hr
        have HF := Lib.hid hf
        clear hr hf
        go_wp2_with fail
        refine (markEntryK 2 k _ (by omega) (by omega)).mono ?_
        rintro ev w5 ⟨rfl, hE5⟩
        have HR5 := Lib.hid (HR.out.ext hE5)
        have HF5 := Lib.hid (HF.out.then hE5)
        clear hE5
        obtain ⟨cur, bt, hg5, hs5⟩ := HR5.out
        go_wp2_with (refine wpList_store_at rfl 121 bt _ _ rfl rfl g k 4 cur #[.int .i64 (markI 2 k), .int .i64 0, .int .i64 0, .slice none 0 0] (by simp [Act.eval]) rfl hg5 infoOvEntries (by omega) rfl (by intro v hv; simp at hv; rcases hv with rfl | rfl | rfl | rfl <;> rfl) ?_; intro w6 hS6; have HS6 := Lib.hid hS6; clear hS6)
        go_roundw
        case rel => exact ⟨k + 1, by omega, by go_num, HR5.out.stored HS6.out (by omega) rfl, HF5.out.trans HS6.out.1 (fun _ _ t => t)⟩
        case measure => simp [intOf]; omega
      · obtain rfl : k = 12 := by omega
        go_wp2
        go_end0
        exact ⟨rfl, hf, Sh.one HH.out hr hf⟩
  · skip
    go_enter Tryz.func28, Tryz.ntmps28
    go_wp2
    go_loopw [2] (fun i wr => i = .int .i64 0 ∧ w = wr) (fun _ _ => 0)
    case atStart => exact ⟨rfl, rfl⟩
    case round =>
    obtain ⟨rfl, rfl⟩ := hrel
    go_wp2
    go_loopw [4] (fun i wr => OvRel 4 g 12 12 w i wr) (fun i _ => 12 - (intOf i).toNat)
    case atStart => exact ⟨0, Nat.zero_le _, rfl, HH.out, Fr.refl _ _⟩
    case round =>
      clear h
      obtain ⟨k, hk, rfl, hr, hf⟩ := hrel
      by_cases hlt : k < 12
      · have HR := Lib.hid hr
        have HF := Lib.hid hf
        clear hr hf
        go_wp2_with fail
        refine (markEntryK 2 k _ (by omega) (by omega)).mono ?_
        rintro ev w5 ⟨rfl, hE5⟩
        have HR5 := Lib.hid (HR.out.ext hE5)
        have HF5 := Lib.hid (HF.out.then hE5)
        clear hE5
        obtain ⟨cur, bt, hg5, hs5⟩ := HR5.out
        go_wp2_with (refine wpList_store_at rfl 121 bt _ _ rfl rfl g k 4 cur #[.int .i64 (markI 2 k), .int .i64 0, .int .i64 0, .slice none 0 0] (by simp [Act.eval]) rfl hg5 infoOvEntries (by omega) rfl (by intro v hv; simp at hv; rcases hv with rfl | rfl | rfl | rfl <;> rfl) ?_; intro w6 hS6; have HS6 := Lib.hid hS6; clear hS6)
        go_roundw
        case rel => exact ⟨k + 1, by omega, by go_num, HR5.out.stored HS6.out (by omega) rfl, HF5.out.trans HS6.out.1 (fun _ _ t => t)⟩
        case measure => simp [intOf]; omega
      · obtain rfl : k = 12 := by omega
        go_wp2
        go_end0
        exact ⟨rfl, hf, Sh.one HH.out hr hf⟩
set_option maxHeartbeats 600000 in
theorem overEntries_0 (A : Option Addr) (w : World) : Calls Tryz.prog 28 #[.slice A 0 0] w fun e w' => e = .returned (.tuple #[]) ∧ w = w' := by
  go_enter Tryz.func28, Tryz.ntmps28
  go_wp2
  go_loop [2] (fun i => i = .int .i64 0) (fun _ => 0)
  case atStart => rfl
  case round =>
  obtain rfl := hrel
  go_wp2
  go_loop [4] (fun i => i = .int .i64 0) (fun _ => 0)
  case atStart => rfl
  case round =>
    obtain rfl := hrel
    go_wp2
    go_end0
    exact ⟨rfl, rfl⟩
end Go.Proofs.YtjnllilmimngoaaGreatDoor
namespace Go.Proofs.YtjnllilmimngoaaGreatDoor
open Go.RowKit

/-- What the document's net is. -/
structure RefS where
  us : List Let
  cuts : List Int
  sent : Int
  gone : Int
  lost : Int
  twice : Int
def refA (A : Option Addr) (n c : Nat) (Ac : Option Addr) (nc cc : Nat) (sent gone lost twice : Int) : Array Value := #[.slice A n c, .slice Ac nc cc, .int .i64 sent, .int .i64 gone, .int .i64 lost, .int .i64 twice]
structure RefAt (w : World) (B rb : Nat) (A : Option Addr) (c : Nat) (Ac : Option Addr) (cc : Nat) (s : RefS) : Prop where
  r1 : w.heap[rb]? = some (.cells (refA A s.us.length c Ac s.cuts.length cc s.sent s.gone s.lost s.twice) 70)
  u1 : OwnW 23 w B 35 A s.us.length c (flat s.us)
  k1 : Own w B 3 Ac cc (s.cuts.map (.int .i64))
  u2 : ∀ u ∈ s.us, u.light
  B1 : B ≤ rb
structure RefS.fits (s : RefS) : Prop where
  f1 : s.us.length ≤ 10000
  f2 : 0 ≤ s.sent ∧ s.sent ≤ 1000000
  f3 : 0 ≤ s.gone ∧ s.gone ≤ 1000000
  f4 : 0 ≤ s.lost ∧ s.lost ≤ 1000000
  f5 : 0 ≤ s.twice ∧ s.twice ≤ 1000000
  f6 : s.cuts.length ≤ 7
/-- The blocks that it turns. -/
def mutR (rb : Nat) (A Ac : Option Addr) : Nat → Prop := fun i => i = rb ∨ (blk A i ∨ blk Ac i)
section
variable {w w' : World} {B rb c cc : Nat} {A Ac : Option Addr} {s : RefS}
theorem RefAt.ext (h : RefAt w B rb A c Ac cc s) (he : Ext w w') : RefAt w' B rb A c Ac cc s := ⟨he.blk h.r1, h.u1.ext he, h.k1.ext he, h.u2, h.B1⟩
theorem RefAt.fr {S : Nat → Prop} (h : RefAt w B rb A c Ac cc s) (hf : Fr S w w') (hS : ∀ i, mutR rb A Ac i → ¬ S i) : RefAt w' B rb A c Ac cc s :=
  ⟨(hf.block rb (heap_lt h.r1) (hS rb (.inl rfl))).trans h.r1, h.u1.fr hf fun i hi => hS i (.inr (.inl hi)), h.k1.fr hf fun i hi => hS i (.inr (.inr hi)), h.u2, h.B1⟩
theorem RefAt.lets (h : RefAt w B rb A c Ac cc s) : LetsIn w A s.us := LetsIn.light h.u1 h.u2
theorem RefAt.arb (h : RefAt w B rb A c Ac cc s) : ¬ blk A rb := h.u1.ne_blk h.r1 (by decide)
theorem RefAt.krb (h : RefAt w B rb A c Ac cc s) : ¬ blk Ac rb := OwnW.ne_blk (show OwnW 1 w B 3 Ac _ cc _ from h.k1) h.r1 (by decide)
theorem RefAt.ak (h : RefAt w B rb A c Ac cc s) {i : Nat} (hi : blk A i) : ¬ blk Ac i := OwnW.ne h.u1 (show OwnW 1 w B 3 Ac _ cc _ from h.k1) (by decide) hi
theorem RefAt.mut_lt (h : RefAt w B rb A c Ac cc s) {i : Nat} (hi : mutR rb A Ac i) : B ≤ i ∧ i < w.heap.size := by
  rcases hi with rfl | hi | hi
  · exact ⟨h.B1, heap_lt h.r1⟩
  · exact h.u1.lt hi
  · exact h.k1.lt hi
theorem RefAt.cells (h : RefAt w B rb A c Ac cc s) : w.cell? ⟨rb, 0, none⟩ = some (.slice A s.us.length c) ∧ w.cell? ⟨rb, 1, none⟩ = some (.slice Ac s.cuts.length cc) ∧ w.cell? ⟨rb, 2, none⟩ = some (.int .i64 s.sent) ∧ w.cell? ⟨rb, 3, none⟩ = some (.int .i64 s.gone) ∧ w.cell? ⟨rb, 4, none⟩ = some (.int .i64 s.lost) ∧ w.cell? ⟨rb, 5, none⟩ = some (.int .i64 s.twice) := by
  refine ⟨?_, ?_, ?_, ?_, ?_, ?_⟩ <;> (rw [cell_of_heap h.r1]; rfl)
/-- a store into its own cells that leaves its rows. -/
theorem RefAt.count (h : RefAt w B rb A c Ac cc s) {sent gone lost twice : Int} (hb : w'.heap[rb]? = some (.cells (refA A s.us.length c Ac s.cuts.length cc sent gone lost twice) 70)) (hf : Fr (isB rb) w w') :
    RefAt w' B rb A c Ac cc { s with sent := sent, gone := gone, lost := lost, twice := twice } :=
  ⟨hb, h.u1.fr hf (fun i hi t => h.arb (by cases t; exact hi)), h.k1.fr hf (fun i hi t => h.krb (by cases t; exact hi)), h.u2, h.B1⟩
end
/-- What a call on it leaves. -/
def RefStep (w : World) (B rb : Nat) (A Ac : Option Addr) (s' : RefS) (w' : World) : Prop :=
  ∃ A' c' Ac' cc', RefAt w' B rb A' c' Ac' cc' s' ∧ Fr (mutR rb A Ac) w w' ∧ (∀ i, blk A' i → blk A i ∨ w.heap.size ≤ i) ∧ (∀ i, blk Ac' i → blk Ac i ∨ w.heap.size ≤ i)
section
variable {w w1 w2 : World} {B rb c cc : Nat} {A Ac : Option Addr} {s s' : RefS}
theorem RefStep.same (h : RefAt w B rb A c Ac cc s) (he : Ext w w1) : RefStep w B rb A Ac s w1 := ⟨A, c, Ac, cc, h.ext he, Fr.ofExt _ he, fun _ hi => .inl hi, fun _ hi => .inl hi⟩
theorem RefStep.before (he : Ext w w1) (h : RefStep w1 B rb A Ac s' w2) : RefStep w B rb A Ac s' w2 := by
  obtain ⟨A', c', Ac', cc', h1, h2, h3, h4⟩ := h
  exact ⟨A', c', Ac', cc', h1, (Fr.ofExt _ he).trans h2 (fun _ _ t => t), fun i hi => (h3 i hi).imp id fun h => Nat.le_trans he.sz h, fun i hi => (h4 i hi).imp id fun h => Nat.le_trans he.sz h⟩
end
theorem new_ref (w : World) : Calls Tryz.prog 11 #[] w fun e w' => e = .returned (.pointer (some ⟨w.heap.size, 0, none⟩)) ∧ RefAt w' w.heap.size w.heap.size none 0 none 0 ⟨[], [], 0, 0, 0, 0⟩ ∧ Ext w w' := by
  have h0 := Lib.hid (heap_alloc_new w (.cells (refA none 0 0 none 0 0 0 0 0 0) 70))
  go_enter Tryz.func11, Tryz.ntmps11
  go_wp2
  go_ret
  exact ⟨by simp, ⟨h0.out, OwnW.nil _ _ _ _, Own.nil _ _ _, fun u hu => by simp at hu, Nat.le_refl _⟩, (Ext.refl w).alloc _⟩
theorem at_plain (i : Int) (n : Nat) (h0 : ¬ n = 0) (hn : n ≤ 10000) : (wrap64 (i.tmod n + n)).tmod n = i % n := by
  have hlt := tmod_small i n h0
  rw [show wrap64 (i.tmod n + n) = i.tmod n + n from IntWalk.wrap64_in _ (by omega), Int.tmod_eq_emod_of_nonneg (by omega), Int.add_emod_right, tmod_emod]
set_option maxRecDepth 100000 in
set_option maxHeartbeats 1000000 in
theorem at_ref (w : World) (B rb : Nat) (A Ac : Option Addr) (c cc : Nat) (s : RefS) (h : RefAt w B rb A c Ac cc s) (hf : s.us.length ≤ 10000) (h0 : ¬ s.us.length = 0) (i : Int) :
    Calls Tryz.prog 61 #[.pointer (some ⟨rb, 0, none⟩), .int .i64 i] w fun e w' => e = .returned (.int .i64 (i % s.us.length)) ∧ Ext w w' := by
  have c0 := h.cells.1
  have hne : ((s.us.length : Int) == 0) = false := beq_eq_false_iff_ne.2 (by omega)
  clear h
  go_enter Tryz.func61, Tryz.ntmps61
  go_wp2
  go_quiet (fail)
  go_wp2
  go_ret
  refine ⟨?_, (Ext.refl w).drewN _⟩
  simp
  exact at_plain i s.us.length h0 hf
def CuRel (xs : List Int) (n : Int) (i : Value) : Prop := ∃ k : Nat, k ≤ xs.length ∧ i = .int .i64 k ∧ n ∉ xs.take k
set_option maxHeartbeats 600000 in
theorem cut_ref (w : World) (B rb : Nat) (A Ac : Option Addr) (c cc : Nat) (s : RefS) (h : RefAt w B rb A c Ac cc s) (hf : s.cuts.length ≤ 7) (n : Int) :
    Calls Tryz.prog 53 #[.pointer (some ⟨rb, 0, none⟩), .int .i64 n] w fun e w' => e = .returned (.bool (decide (n ∈ s.cuts))) ∧ w = w' := by
  have c1 := h.cells.2.1
  have hO := h.k1
  clear h
  go_enter Tryz.func53, Tryz.ntmps53
  go_wp2
  go_loop [5] (fun i => CuRel s.cuts n i) (fun i => s.cuts.length - (intOf i).toNat)
  case atStart => exact ⟨0, Nat.zero_le _, rfl, by simp⟩
  case round =>
    obtain ⟨k, hk, rfl, hr⟩ := hrel
    have HR := Lib.hid hr
    clear hr
    by_cases hlt : k < s.cuts.length
    · obtain ⟨x, hx⟩ : ∃ x, s.cuts[k]? = some x := ⟨_, List.getElem?_eq_getElem hlt⟩
      obtain ⟨g, rfl⟩ := hO.some_ (by rw [List.length_map]; omega)
      have hc : w.cell? ⟨g, k, none⟩ = some (.int .i64 x) := hO.rd.at0 (by simp [hx])
      have HX := Lib.hid hx
      have HT := Lib.hid (take_snoc' hx)
      clear hx
      by_cases hn : x = n
      · subst hn
        have hv := Lib.hid (show decide (x ∈ s.cuts) = true by simpa using List.mem_of_getElem? HX.out)
        have d1 : (x == x) = true := by simp
        go_wp2
        go_ret
        exact ⟨by rw [hv.out]; rfl, rfl⟩
      · have d1 : (x == n) = false := by simpa using hn
        go_wp2
        go_round
        case rel => exact ⟨k + 1, by omega, by go_num, by rw [HT.out]; simp [HR.out]; omega⟩
        case measure => simp [intOf]; omega
    · obtain rfl : k = s.cuts.length := by omega
      have hr := HR.out
      rw [List.take_length] at hr
      have hv := Lib.hid (show decide (n ∈ s.cuts) = false by simpa using hr)
      clear hr
      go_wp2
      go_ret
      exact ⟨by rw [hv.out]; rfl, rfl⟩
end Go.Proofs.YtjnllilmimngoaaGreatDoor
namespace Go.Proofs.YtjnllilmimngoaaGreatDoor
open Go.RowKit

theorem run_append_none {P : Program} (w : World) (t ty e : TypeId) (i : TypeInfo) (sz : Nat) (ht : P.underlying t = some (.slice e)) (hi : P.info? e = some i)
    (B : Nat) (A : Option Addr) (n c : Nat) (xs : List Value) (hown : OwnW sz w B e A n c xs) (D : Option Addr) (cc : Nat) (hn : n ≤ 1000000) : (Builtin.append_ #[t, t] ty #[.slice A n c, .slice D 0 cc]).run P w = .ok (.slice A n c) w := by
  have hle := hown.cap.1
  rcases hown.cases with ⟨rfl, rfl, rfl, rfl⟩ | ⟨g, cur, rfl, hB, hg, hh, hle, hm, hs, htk⟩ <;> cases D <;>
    simp [Builtin.append_, run_underlying ht, sizeOf, typeInfo, hi, Builtin.lenOf, Builtin.firstCells, loadCells, loadCellsFrom, storeCells, hle]
theorem wpList_append_none {ops : Array Oper} {rest : List Oper} {o : Oper} {a : Act} {Q : Exit → Act → World → Prop} (w : World) (hgd : o.guard = none) (s x : Operand) (t : TypeId)
    (ho : o.op = .call { callee := .builtin .append, args := #[s, x], argTypes := #[t, t] }) (e : TypeId) (sz : Nat) (ht : Tryz.prog.underlying t = some (.slice e)) (hinfo : (Tryz.prog.info? e).isSome = true)
    (B : Nat) (A : Option Addr) (n c : Nat) (xs : List Value) (hs : a.eval s = .slice A n c) (hown : OwnW sz w B e A n c xs) (D : Option Addr) (cc : Nat) (hx : a.eval x = .slice D 0 cc) (hn : n ≤ 1000000)
    (h : wpList Tryz.prog ops Q rest (a.put o.dst (.slice A n c)) w) : wpList Tryz.prog ops Q (o :: rest) a w := by
  refine wpList_plain hgd fun K hK => ?_
  obtain ⟨i0, hi⟩ := Option.isSome_iff_exists.1 hinfo
  unfold Oper.wp execOp
  simp only [ho, resolve, invoke, builtin, Sem.run_bind, Sem.run_pure, Result.andThen_ok, List.map_toArray, List.map_cons, List.map_nil, hs, hx, run_append_none w t o.type e i0 sz ht hi B A n c xs hown D cc hn]
  exact hK _ _ h
/-- Where the copy lies while it is made. -/
def CpMem (l : Let) (w W : World) : Prop := Ext w W ∧ W.heap[w.heap.size]? = some (.cells l.arr 35) ∧ W.heap[w.heap.size + 1]? = some (.cells Let.z.arr 35)
theorem CpMem.set {l l' : Let} {w W : World} {e : TypeId} {k : Nat} {v : Value} (h : CpMem l w W) (hl : l.arr.setIfInBounds k v = l'.arr) : CpMem l' w ((W.alloc (.cells #[] e)).setCell ⟨w.heap.size, k, none⟩ v) := by
  have h1 := (Ext.refl W).alloc (.cells #[] e)
  refine ⟨?_, ?_, ?_⟩
  · exact ((Fr.ofExt (isB w.heap.size) (h.1.trans h1)).set (p := ⟨w.heap.size, k, none⟩) (.inl rfl) v).toExt fun i hi => by unfold isB at hi; omega
  · rw [heap_set (h1.blk h.2.1), hl]
  · exact (((Fr.refl (isB w.heap.size) (W.alloc (.cells #[] e))).set (p := ⟨w.heap.size, k, none⟩) (.inl rfl) v).block _ (heap_lt (h1.blk h.2.2)) (by unfold isB; omega)).trans (h1.blk h.2.2)
theorem CpMem.set' {l l' : Let} {w W : World} {k : Nat} {v : Value} (h : CpMem l w W) (hl : l.arr.setIfInBounds k v = l'.arr) : CpMem l' w (W.setCell ⟨w.heap.size, k, none⟩ v) := by
  refine ⟨?_, ?_, ?_⟩
  · exact ((Fr.ofExt (isB w.heap.size) h.1).set (p := ⟨w.heap.size, k, none⟩) (.inl rfl) v).toExt fun i hi => by unfold isB at hi; omega
  · rw [heap_set h.2.1, hl]
  · exact (((Fr.refl (isB w.heap.size) W).set (p := ⟨w.heap.size, k, none⟩) (.inl rfl) v).block _ (heap_lt h.2.2) (by unfold isB; omega)).trans h.2.2
set_option maxRecDepth 100000 in
set_option maxHeartbeats 4000000 in
theorem copied_ref (l : Let) (w : World) (hl : l.light) : Calls Tryz.prog 62 #[l.v] w fun e w' => ∃ l' : Let, e = .returned l'.v ∧ l'.cont = l.cont ∧ Ext w w' := by
  have HM := Lib.hid (show CpMem l w ((w.alloc (.cells l.arr 35)).alloc (.cells Let.z.arr 35)) from ⟨((Ext.refl w).alloc _).alloc _, heap0 w _ _, heap1 w _ _⟩)
  have hV : l.v = .agg l.arr := rfl
  rw [hV]
  have HL := Lib.hid hl
  clear hl hV
  go_enter Tryz.func62, Tryz.ntmps62
  go_upto_region 1 with fail
  refine absW (fun W => CpMem l w W) HM.out ?_
  rintro W0 M0
  have c7 : ∀ o, (W0.alloc o).cell? ⟨w.heap.size, 11, none⟩ = some (.slice l.wA 0 l.wc) := fun o => by rw [cell_of_heap (((Ext.refl W0).alloc o).blk M0.2.1)]; simp [Let.arr, HL.out.w]
  have f0 := fun o => frozen_of_heap (((Ext.refl W0).alloc o).blk M0.2.1)
  have MM := Lib.hid M0
  clear M0
  go_upto_region 2 with (at_builtin; refine wpList_append_none _ rfl _ _ 27 rfl 26 3 Tryz.underlying27 (by kernel_rfl) 0 _ 0 0 [] rfl (ownW_empty 3 _ 0 _ (Nat.zero_le _)) _ _ rfl (by omega) ?_)
  refine absW (fun W => CpMem { l with wA := some ⟨W0.heap.size, 0, none⟩, wc := 0 } w W) (CpMem.set (l' := { l with wA := some ⟨W0.heap.size, 0, none⟩, wc := 0 }) (l := l) (k := 11) (v := .slice (some ⟨W0.heap.size, 0, none⟩) 0 0) MM.out (by simp [Let.arr, HL.out.w])) ?_
  clear c7 f0 MM
  generalize some (⟨W0.heap.size, 0, none⟩ : Addr) = a1
  rintro W1 M1
  have c7 : ∀ o, (W1.alloc o).cell? ⟨w.heap.size, 22, none⟩ = some (.slice l.bA 0 l.bc) := fun o => by rw [cell_of_heap (((Ext.refl W1).alloc o).blk M1.2.1)]; simp [Let.arr, HL.out.b]
  have f0 := fun o => frozen_of_heap (((Ext.refl W1).alloc o).blk M1.2.1)
  have MM := Lib.hid M1
  clear M1
  go_upto_region 3 with (at_builtin; refine wpList_append_none _ rfl _ _ 33 rfl 5 1 Tryz.underlying33 (by kernel_rfl) 0 _ 0 0 [] rfl (ownW_empty 1 _ 0 _ (Nat.zero_le _)) _ _ rfl (by omega) ?_)
  refine absW (fun W => CpMem { l with wA := a1, wc := 0, bA := some ⟨W1.heap.size, 0, none⟩, bc := 0 } w W) (CpMem.set (l' := { l with wA := a1, wc := 0, bA := some ⟨W1.heap.size, 0, none⟩, bc := 0 }) (l := { l with wA := a1, wc := 0 }) (k := 22) (v := .slice (some ⟨W1.heap.size, 0, none⟩) 0 0) MM.out (by simp [Let.arr, HL.out.b])) ?_
  clear c7 f0 MM
  generalize some (⟨W1.heap.size, 0, none⟩ : Addr) = a2
  rintro W2 M2
  have c7 : ∀ o, (W2.alloc o).cell? ⟨w.heap.size, 18, none⟩ = some (.slice l.mA 0 l.mc) := fun o => by rw [cell_of_heap (((Ext.refl W2).alloc o).blk M2.2.1)]; simp [Let.arr, HL.out.m]
  have f0 := fun o => frozen_of_heap (((Ext.refl W2).alloc o).blk M2.2.1)
  have MM := Lib.hid M2
  clear M2
  go_upto_region 4 with (at_builtin; refine wpList_append_none _ rfl _ _ 29 rfl 3 1 Tryz.underlying29 (by kernel_rfl) 0 _ 0 0 [] rfl (ownW_empty 1 _ 0 _ (Nat.zero_le _)) _ _ rfl (by omega) ?_)
  refine absW (fun W => CpMem { l with wA := a1, wc := 0, bA := a2, bc := 0, mA := some ⟨W2.heap.size, 0, none⟩, mc := 0 } w W) (CpMem.set (l' := { l with wA := a1, wc := 0, bA := a2, bc := 0, mA := some ⟨W2.heap.size, 0, none⟩, mc := 0 }) (l := { l with wA := a1, wc := 0, bA := a2, bc := 0 }) (k := 18) (v := .slice (some ⟨W2.heap.size, 0, none⟩) 0 0) MM.out (by simp [Let.arr, HL.out.m])) ?_
  clear c7 f0 MM
  generalize some (⟨W2.heap.size, 0, none⟩ : Addr) = a3
  rintro W3 M3
  have c7 : ∀ o, (W3.alloc o).cell? ⟨w.heap.size, 20, none⟩ = some (.slice l.uA 0 l.uc) := fun o => by rw [cell_of_heap (((Ext.refl W3).alloc o).blk M3.2.1)]; simp [Let.arr, HL.out.u]
  have f0 := fun o => frozen_of_heap (((Ext.refl W3).alloc o).blk M3.2.1)
  have MM := Lib.hid M3
  clear M3
  go_upto_region 5 with (at_builtin; refine wpList_append_none _ rfl _ _ 30 rfl 145 1 Tryz.underlying30 (by kernel_rfl) 0 _ 0 0 [] rfl (ownW_empty 1 _ 0 _ (Nat.zero_le _)) _ _ rfl (by omega) ?_)
  refine absW (fun W => CpMem { l with wA := a1, wc := 0, bA := a2, bc := 0, mA := a3, mc := 0, uA := some ⟨W3.heap.size, 0, none⟩, uc := 0 } w W) (CpMem.set (l' := { l with wA := a1, wc := 0, bA := a2, bc := 0, mA := a3, mc := 0, uA := some ⟨W3.heap.size, 0, none⟩, uc := 0 }) (l := { l with wA := a1, wc := 0, bA := a2, bc := 0, mA := a3, mc := 0 }) (k := 20) (v := .slice (some ⟨W3.heap.size, 0, none⟩) 0 0) MM.out (by simp [Let.arr, HL.out.u])) ?_
  clear c7 f0 MM
  generalize some (⟨W3.heap.size, 0, none⟩ : Addr) = a4
  rintro W4 M4
  have c7 : W4.cell? ⟨w.heap.size, 14, none⟩ = some (.slice l.eA 0 l.ec) := by rw [cell_of_heap M4.2.1]; simp [Let.arr, HL.out.e]
  have f0 := frozen_of_heap M4.2.1
  have MM := Lib.hid M4
  clear M4
  go_wp2_with fail
  go_loopw [3, 4] (fun v i wr => v = .slice none 0 0 ∧ i = .int .i64 0 ∧ W4 = wr) (fun _ _ _ => 0)
  case atStart => exact ⟨rfl, rfl, rfl⟩
  case round =>
    obtain ⟨rfl, rfl, rfl⟩ := hrel
    go_upto_region 13 with fail
    refine absW (fun W => CpMem { l with wA := a1, wc := 0, bA := a2, bc := 0, mA := a3, mc := 0, uA := a4, uc := 0, eA := none, ec := 0 } w W) (CpMem.set' (l' := { l with wA := a1, wc := 0, bA := a2, bc := 0, mA := a3, mc := 0, uA := a4, uc := 0, eA := none, ec := 0 }) (l := { l with wA := a1, wc := 0, bA := a2, bc := 0, mA := a3, mc := 0, uA := a4, uc := 0 }) (k := 14) (v := .slice none 0 0) MM.out (by simp [Let.arr, HL.out.e])) ?_
    clear c7 f0 MM
    rintro W5 M5
    have HG5 := Lib.hid M5.2.1
    have HZ5 := Lib.hid M5.2.2
    have HE5 := Lib.hid M5.1
    clear M5
    go_wp2_with (first | (refine wpList_load_letW rfl _ rfl w.heap.size { l with wA := a1, wc := 0, bA := a2, bc := 0, mA := a3, mc := 0, uA := a4, uc := 0, eA := none, ec := 0 } rfl HG5.out ?_) | (refine wpList_store_all rfl _ _ rfl rfl (w.heap.size + 1) { l with wA := a1, wc := 0, bA := a2, bc := 0, mA := a3, mc := 0, uA := a4, uc := 0, eA := none, ec := 0 } _ rfl rfl HZ5.out (by simp [Let.arr]) ?_; intro w8 hG8 hF8; have HG8 := Lib.hid hG8; have HF8 := Lib.hid hF8; clear hG8 hF8))
    refine bodyPost_ret (v := Let.v { l with wA := a1, wc := 0, bA := a2, bc := 0, mA := a3, mc := 0, uA := a4, uc := 0, eA := none, ec := 0 }) (results_cell_row Tryz.results62 _ w8 (w.heap.size + 1) 35 _ (0, 0) _ rfl HG8.out Tryz.underlying35 rfl (by rw [infoLet]; rfl)) rfl ⟨_, rfl, ?_, ((Fr.ofExt (isB (w.heap.size + 1)) HE5.out).trans HF8.out (fun _ _ t => t)).toExt (fun i hi => by unfold isB at hi; omega)⟩
    simp [Let.cont, Let.snc]
end Go.Proofs.YtjnllilmimngoaaGreatDoor
