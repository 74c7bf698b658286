/-
  LetterHas: what is set in the four copies, and what is asked of them.
-/
import Derived.Test.YtcapapnhlkmeaaaDoorM42
namespace Go.Proofs.YtcapapnhlkmeaaaDoor
open Go.RowKit

noncomputable def lh14 : Code := leftC (rightN 10 (Tryd.f3.body.getD .skip))
noncomputable def lhR : Code := rightN 11 (Tryd.f3.body.getD .skip)
def Four9 (l : Let) (w : World) (y : Int) (b5 b6 b7 b8 : Nat) (W : World) : Prop := Four l w (fun l => l.index = y) (fun l => l.commit = y) (fun l => l.prev.t = y) (fun l => l.yes = true) b5 b6 b7 b8 W
set_option maxRecDepth 100000 in
set_option maxHeartbeats 8000000 in
theorem lh_tail (l : Let) (w w0 : World) (y : Int) (hin : l.inW w) (hg : ErrT w) (hy : y ≠ 0) (b5 b6 b7 b8 : Nat) (u3 u4 u9 u10 u11 u12 u13 u14 u15 u16 u17 u18 u19 u20 u21 u22 u23 u24 u25 u26 u27 u28 u29 u30 u31 u32 u33 u34 u35 u36 u37 u38 u39 u40 u41 u42 u43 u44 u45 u46 u47 u48 u49 u50 u51 u52 u53 u54 u55 u56 u57 u58 u59 u60 u61 u62 u63 u64 u65 u66 u67 u68 u69 u70 u71 u72 u73 u74 u75 u76 u77 u78 u79 u80 u81 u82 u83 u84 u85 u86 u87 u88 u89 u90 u91 u92 u93 u94 u95 u96 u97 u98 u99 u100 u101 u102 u103 u104 u105 u106 u107 u108 u109 u110 u111 u112 u113 u114 u115 u116 u117 u118 u119 u120 u121 u122 u123 u124 u125 u126 u127 u128 u129 u130 u131 u132 u133 u134 u135 u136 u137 u138 u139 u140 u141 u142 u143 u144 u145 : Value) (hb5 : w.heap.size < b5) (hb6 : w.heap.size < b6) (hb7 : w.heap.size < b7) (hb8 : w.heap.size < b8) (hQ : ∀ (u3 u4 u9 u10 u11 u12 u13 u14 u15 u16 u17 u18 u19 u20 u21 u22 u23 u24 u25 u26 u27 u28 u29 u30 u31 u32 u33 u34 u35 u36 u37 u38 u39 u40 u41 u42 u43 u44 u45 u46 u47 u48 u49 u50 u51 u52 u53 u54 u55 u56 u57 u58 u59 u60 u61 u62 u63 u64 u65 u66 u67 u68 u69 u70 u71 u72 u73 u74 u75 u76 u77 u78 u79 u80 u81 u82 u83 u84 u85 u86 u87 u88 u89 u90 u91 u92 u93 u94 u95 u96 u97 u98 u99 u100 u101 u102 u103 u104 u105 u106 u107 u108 u109 u110 u111 u112 u113 u114 u115 u116 u117 u118 u119 u120 u121 u122 u123 u124 u125 u126 u127 u128 u129 u130 u131 u132 u133 u134 u135 u136 u137 u138 u139 u140 u141 u142 u143 u144 u145 : Value) (W : World) (K : Act → World → Prop), Four9 l w y b5 b6 b7 b8 W → (∀ a w1, Code.wp Tryd.prog lhR (bodyPost Tryd.prog Tryd.f3 (LhPost w)) a w1 → K a w1) →
    Code.wp Tryd.prog lh14 (Exit.then K (bodyPost Tryd.prog Tryd.f3 (LhPost w))) ⟨#[.agg l.arr, .int .i64 y, .pointer (some ⟨w.heap.size, 0, none⟩), u3, u4, .pointer (some ⟨b5, 0, none⟩), .pointer (some ⟨b6, 0, none⟩), .pointer (some ⟨b7, 0, none⟩), .pointer (some ⟨b8, 0, none⟩), u9, u10, u11, u12, u13, u14, u15, u16, u17, u18, u19, u20, u21, u22, u23, u24, u25, u26, u27, u28, u29, u30, u31, u32, u33, u34, u35, u36, u37, u38, u39, u40, u41, u42, u43, u44, u45, u46, u47, u48, u49, u50, u51, u52, u53, u54, u55, u56, u57, u58, u59, u60, u61, u62, u63, u64, u65, u66, u67, u68, u69, u70, u71, u72, u73, u74, u75, u76, u77, u78, u79, u80, u81, u82, u83, u84, u85, u86, u87, u88, u89, u90, u91, u92, u93, u94, u95, u96, u97, u98, u99, u100, u101, u102, u103, u104, u105, u106, u107, u108, u109, u110, u111, u112, u113, u114, u115, u116, u117, u118, u119, u120, u121, u122, u123, u124, u125, u126, u127, u128, u129, u130, u131, u132, u133, u134, u135, u136, u137, u138, u139, u140, u141, u142, u143, u144, u145], []⟩ W) (hF : Four l w (fun _ => True) (fun _ => True) (fun _ => True) (fun _ => True) b5 b6 b7 b8 w0) :
    Code.wp Tryd.prog lhC (bodyPost Tryd.prog Tryd.f3 (LhPost w)) ⟨#[.agg l.arr, .int .i64 y, .pointer (some ⟨w.heap.size, 0, none⟩), u3, u4, .pointer (some ⟨b5, 0, none⟩), .pointer (some ⟨b6, 0, none⟩), .pointer (some ⟨b7, 0, none⟩), .pointer (some ⟨b8, 0, none⟩), u9, u10, u11, u12, u13, u14, u15, u16, u17, u18, u19, u20, u21, u22, u23, u24, u25, u26, u27, u28, u29, u30, u31, u32, u33, u34, u35, u36, u37, u38, u39, u40, u41, u42, u43, u44, u45, u46, u47, u48, u49, u50, u51, u52, u53, u54, u55, u56, u57, u58, u59, u60, u61, u62, u63, u64, u65, u66, u67, u68, u69, u70, u71, u72, u73, u74, u75, u76, u77, u78, u79, u80, u81, u82, u83, u84, u85, u86, u87, u88, u89, u90, u91, u92, u93, u94, u95, u96, u97, u98, u99, u100, u101, u102, u103, u104, u105, u106, u107, u108, u109, u110, u111, u112, u113, u114, u115, u116, u117, u118, u119, u120, u121, u122, u123, u124, u125, u126, u127, u128, u129, u130, u131, u132, u133, u134, u135, u136, u137, u138, u139, u140, u141, u142, u143, u144, u145], []⟩ w0 := by
  conv => arg 2; whnf
  have HI := Lib.hid hin
  have HG := Lib.hid hg
  have HF5 := Lib.hid hF
  have HQ := Lib.hid hQ
  clear hin hg hF hQ
  obtain ⟨aE, aG, a5, a6, a7, a8⟩ := HF5.out
  obtain ⟨l5, g5, _, _⟩ := a5
  have r := cell_of_heap g5
  have q := frozen_of_heap g5
  have HA := Lib.hid aE
  clear g5 aE aG a6 a7 a8
  go_upto_region 11 with fail
  refine absW (fun W => Four l w (fun l => l.index = y) (fun _ => True) (fun _ => True) (fun _ => True) b5 b6 b7 b8 W) (by
    obtain ⟨aE, aG, a5, a6, a7, a8⟩ := HF5.out
    exact ⟨aE.set (by simp; omega) _, (Below.heap_setCell _ _ _ _ (by simp; omega)).trans aG, a5.gain (fun l => { l with index := y }) (fun l => Let.set4 l y) (fun _ h => h) (fun _ => rfl), a6.put (fun l => { l with index := y }) (fun l => Let.set4 l y) (fun _ h => h) (fun _ h => h), a7.put (fun l => { l with index := y }) (fun l => Let.set4 l y) (fun _ h => h) (fun _ h => h), a8.put (fun l => { l with index := y }) (fun l => Let.set4 l y) (fun _ h => h) (fun _ h => h)⟩) ?_
  clear r q HF5 HA
  intro wn5 hF6
  have HF6 := Lib.hid hF6
  clear hF6
  obtain ⟨aE, aG, a5, a6, a7, a8⟩ := HF6.out
  obtain ⟨l6, g6, _, _⟩ := a6
  have r := cell_of_heap g6
  have q := frozen_of_heap g6
  have HA := Lib.hid aE
  clear g6 aE aG a5 a7 a8
  go_upto_region 12 with fail
  refine absW (fun W => Four l w (fun l => l.index = y) (fun l => l.commit = y) (fun _ => True) (fun _ => True) b5 b6 b7 b8 W) (by
    obtain ⟨aE, aG, a5, a6, a7, a8⟩ := HF6.out
    exact ⟨aE.set (by simp; omega) _, (Below.heap_setCell _ _ _ _ (by simp; omega)).trans aG, a5.put (fun l => { l with commit := y }) (fun l => Let.set12 l y) (fun _ h => h) (fun _ h => h), a6.gain (fun l => { l with commit := y }) (fun l => Let.set12 l y) (fun _ h => h) (fun _ => rfl), a7.put (fun l => { l with commit := y }) (fun l => Let.set12 l y) (fun _ h => h) (fun _ h => h), a8.put (fun l => { l with commit := y }) (fun l => Let.set12 l y) (fun _ h => h) (fun _ h => h)⟩) ?_
  clear r q HF6 HA
  intro wn6 hF7
  have HF7 := Lib.hid hF7
  clear hF7
  obtain ⟨aE, aG, a5, a6, a7, a8⟩ := HF7.out
  obtain ⟨l7, g7, _, _⟩ := a7
  have r := cell_of_heap g7
  have q := frozen_of_heap g7
  have HA := Lib.hid aE
  clear g7 aE aG a5 a6 a8
  go_upto_region 13 with fail
  refine absW (fun W => Four l w (fun l => l.index = y) (fun l => l.commit = y) (fun l => l.prev.t = y) (fun _ => True) b5 b6 b7 b8 W) (by
    obtain ⟨aE, aG, a5, a6, a7, a8⟩ := HF7.out
    exact ⟨aE.set (by simp; omega) _, (Below.heap_setCell _ _ _ _ (by simp; omega)).trans aG, a5.put (fun l => { l with prev := ⟨l.prev.i, y, l.prev.k⟩ }) (fun l => Let.set9 l y) (fun _ h => h) (fun _ h => h), a6.put (fun l => { l with prev := ⟨l.prev.i, y, l.prev.k⟩ }) (fun l => Let.set9 l y) (fun _ h => h) (fun _ h => h), a7.gain (fun l => { l with prev := ⟨l.prev.i, y, l.prev.k⟩ }) (fun l => Let.set9 l y) (fun _ h => h) (fun _ => rfl), a8.put (fun l => { l with prev := ⟨l.prev.i, y, l.prev.k⟩ }) (fun l => Let.set9 l y) (fun _ h => h) (fun _ h => h)⟩) ?_
  clear r q HF7 HA
  intro wn7 hF8
  have HF8 := Lib.hid hF8
  clear hF8
  obtain ⟨aE, aG, a5, a6, a7, a8⟩ := HF8.out
  obtain ⟨l8, g8, _, _⟩ := a8
  have r := cell_of_heap g8
  have q := frozen_of_heap g8
  have HA := Lib.hid aE
  clear g8 aE aG a5 a6 a7
  go_upto_region 14 with fail
  refine absW (fun W => Four l w (fun l => l.index = y) (fun l => l.commit = y) (fun l => l.prev.t = y) (fun l => l.yes = true) b5 b6 b7 b8 W) (by
    obtain ⟨aE, aG, a5, a6, a7, a8⟩ := HF8.out
    exact ⟨aE.set (by simp; omega) _, (Below.heap_setCell _ _ _ _ (by simp; omega)).trans aG, a5.put (fun l => { l with yes := true }) (fun l => Let.set13 l true) (fun _ h => h) (fun _ h => h), a6.put (fun l => { l with yes := true }) (fun l => Let.set13 l true) (fun _ h => h) (fun _ h => h), a7.put (fun l => { l with yes := true }) (fun l => Let.set13 l true) (fun _ h => h) (fun _ h => h), a8.gain (fun l => { l with yes := true }) (fun l => Let.set13 l true) (fun _ h => h) (fun _ => rfl)⟩) ?_
  clear r q HF8 HA
  intro wn8 hF9
  have HF9 := Lib.hid hF9
  clear hF9
  apply HQ.out
  · exact HF9.out
  · assumption
end Go.Proofs.YtcapapnhlkmeaaaDoor
