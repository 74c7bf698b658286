/-
  LetterHas: what is asked of the four copies (kind 2).
  LetterHas: what is asked of the four copies (kind 3).
  LetterHas: what is asked of the four copies (kind 4).
  LetterHas: what is asked of the four copies (kind 6).
  LetterHas: what is asked of the four copies (another kind).
  LetterHas.
-/
import Derived.Test.YtcapapnhlkmeaaaDoorM43
namespace Go.Proofs.YtcapapnhlkmeaaaDoor
open Go.RowKit

set_option maxRecDepth 100000 in
set_option maxHeartbeats 2000000 in
theorem lh_14_2 (l : Let) (w : World) (y : Int) (hin : l.inW w) (hg : ErrT w) (hy : y ≠ 0) (hk2 : l.kind = 2) (b5 b6 b7 b8 : Nat) : ∀ (u3 u4 u9 u10 u11 u12 u13 u14 u15 u16 u17 u18 u19 u20 u21 u22 u23 u24 u25 u26 u27 u28 u29 u30 u31 u32 u33 u34 u35 u36 u37 u38 u39 u40 u41 u42 u43 u44 u45 u46 u47 u48 u49 u50 u51 u52 u53 u54 u55 u56 u57 u58 u59 u60 u61 u62 u63 u64 u65 u66 u67 u68 u69 u70 u71 u72 u73 u74 u75 u76 u77 u78 u79 u80 u81 u82 u83 u84 u85 u86 u87 u88 u89 u90 u91 u92 u93 u94 u95 u96 u97 u98 u99 u100 u101 u102 u103 u104 u105 u106 u107 u108 u109 u110 u111 u112 u113 u114 u115 u116 u117 u118 u119 u120 u121 u122 u123 u124 u125 u126 u127 u128 u129 u130 u131 u132 u133 u134 u135 u136 u137 u138 u139 u140 u141 u142 u143 u144 u145 : Value) (W : World) (K : Act → World → Prop), Four9 l w y b5 b6 b7 b8 W → (∀ a w1, Code.wp Tryd.prog lhR (bodyPost Tryd.prog Tryd.f3 (LhPost w)) a w1 → K a w1) →
    Code.wp Tryd.prog lh14 (Exit.then K (bodyPost Tryd.prog Tryd.f3 (LhPost w))) ⟨#[.agg l.arr, .int .i64 y, .pointer (some ⟨w.heap.size, 0, none⟩), u3, u4, .pointer (some ⟨b5, 0, none⟩), .pointer (some ⟨b6, 0, none⟩), .pointer (some ⟨b7, 0, none⟩), .pointer (some ⟨b8, 0, none⟩), u9, u10, u11, u12, u13, u14, u15, u16, u17, u18, u19, u20, u21, u22, u23, u24, u25, u26, u27, u28, u29, u30, u31, u32, u33, u34, u35, u36, u37, u38, u39, u40, u41, u42, u43, u44, u45, u46, u47, u48, u49, u50, u51, u52, u53, u54, u55, u56, u57, u58, u59, u60, u61, u62, u63, u64, u65, u66, u67, u68, u69, u70, u71, u72, u73, u74, u75, u76, u77, u78, u79, u80, u81, u82, u83, u84, u85, u86, u87, u88, u89, u90, u91, u92, u93, u94, u95, u96, u97, u98, u99, u100, u101, u102, u103, u104, u105, u106, u107, u108, u109, u110, u111, u112, u113, u114, u115, u116, u117, u118, u119, u120, u121, u122, u123, u124, u125, u126, u127, u128, u129, u130, u131, u132, u133, u134, u135, u136, u137, u138, u139, u140, u141, u142, u143, u144, u145], []⟩ W := by
  intro u3 u4 u9 u10 u11 u12 u13 u14 u15 u16 u17 u18 u19 u20 u21 u22 u23 u24 u25 u26 u27 u28 u29 u30 u31 u32 u33 u34 u35 u36 u37 u38 u39 u40 u41 u42 u43 u44 u45 u46 u47 u48 u49 u50 u51 u52 u53 u54 u55 u56 u57 u58 u59 u60 u61 u62 u63 u64 u65 u66 u67 u68 u69 u70 u71 u72 u73 u74 u75 u76 u77 u78 u79 u80 u81 u82 u83 u84 u85 u86 u87 u88 u89 u90 u91 u92 u93 u94 u95 u96 u97 u98 u99 u100 u101 u102 u103 u104 u105 u106 u107 u108 u109 u110 u111 u112 u113 u114 u115 u116 u117 u118 u119 u120 u121 u122 u123 u124 u125 u126 u127 u128 u129 u130 u131 u132 u133 u134 u135 u136 u137 u138 u139 u140 u141 u142 u143 u144 u145 wn8 K hF hK
  conv => arg 2; whnf
  have HI := Lib.hid hin
  have HG := Lib.hid hg
  have HF9 := Lib.hid hF
  clear hin hg hF
  obtain ⟨aE, aG, ⟨l5, g5, s5, p5⟩, ⟨l6, g6, s6, p6⟩, ⟨l7, g7, s7, p7⟩, ⟨l8, g8, s8, p8⟩⟩ := HF9.out
  have HG5 := Lib.hid g5
  have HG6 := Lib.hid g6
  have HG7 := Lib.hid g7
  have HG8 := Lib.hid g8
  have HE := Lib.hid aE
  have n5 : l.kind ≠ 4 → rightL l5 = false := fun h => not_index (by rw [s5.1]; exact h) (by rw [p5]; exact hy)
  have n6 : l.kind ≠ 3 → rightL l6 = false := fun h => not_commit (by rw [s6.1]; exact h) (by rw [p6]; exact hy)
  have n7 : l.kind ≠ 3 → rightL l7 = false := fun h => not_prev (by rw [s7.1]; exact h) (by rw [p7]; exact hy)
  have n8 : l.kind ≠ 2 → l.kind ≠ 4 → l.kind ≠ 6 → rightL l8 = false := fun h2 h4 h6 => not_yes (by rw [s8.1]; exact h2) (by rw [s8.1]; exact h4) (by rw [s8.1]; exact h6) p8
  have i5 := Lib.hid (s5.inW HI.out)
  have i6 := Lib.hid (s6.inW HI.out)
  have i7 := Lib.hid (s7.inW HI.out)
  have i8 := Lib.hid (s8.inW HI.out)
  have r0 := cell_of_heap aG
  have HG0 := Lib.hid aG
  clear g5 g6 g7 g8 aE aG s5 s6 s7 s8 p5 p6 p7 p8
  have q2 : (l.kind == 2) = true := by simpa using hk2
  have q3 : (l.kind == 3) = false := by rw [hk2]; rfl
  have q4 : (l.kind == 4) = false := by rw [hk2]; rfl
  have q6 : (l.kind == 6) = false := by rw [hk2]; rfl
  have z5 := n5 (by omega)
  have z6 := n6 (by omega)
  have z7 := n7 (by omega)
  clear n5 n6 n7 n8 hk2
  go_wp2_with (refine wpList_load_letW (by rfl) (.tmp 5) rfl b5 l5 rfl HG5.out ?_)
  refine (Right_any l5 _ (i5.out.ext HE.out) (HG.out.ext HE.out)).mono ?_
  rintro e v1 ⟨rfl, hE1⟩
  rw [z5]
  have hX1 := Lib.hid hE1
  have HE1 := Lib.hid (HE.out.trans hE1)
  have t1 := cell_of_heap (hX1.out.blk HG0.out)
  clear hE1
  go_wp2_with (refine wpList_load_letW (by rfl) (.tmp 6) rfl b6 l6 rfl (hX1.out.blk HG6.out) ?_)
  refine (Right_any l6 _ (i6.out.ext HE1.out) (HG.out.ext HE1.out)).mono ?_
  rintro e v2 ⟨rfl, hE2⟩
  rw [z6]
  have hX2 := Lib.hid (hX1.out.trans hE2)
  have HE2 := Lib.hid (HE1.out.trans hE2)
  have t2 := cell_of_heap (hX2.out.blk HG0.out)
  clear hE2
  go_wp2_with (refine wpList_load_letW (by rfl) (.tmp 7) rfl b7 l7 rfl (hX2.out.blk HG7.out) ?_)
  refine (Right_any l7 _ (i7.out.ext HE2.out) (HG.out.ext HE2.out)).mono ?_
  rintro e v3 ⟨rfl, hE3⟩
  rw [z7]
  have hX3 := Lib.hid (hX2.out.trans hE3)
  have HE3 := Lib.hid (HE2.out.trans hE3)
  have t3 := cell_of_heap (hX3.out.blk HG0.out)
  clear hE3
  go_wp2_with fail
  conv => arg 2; whnf
  go_wp2_with fail
  go_ret
  exact ⟨rfl, HE3.out⟩
end Go.Proofs.YtcapapnhlkmeaaaDoor
namespace Go.Proofs.YtcapapnhlkmeaaaDoor
open Go.RowKit

set_option maxRecDepth 100000 in
set_option maxHeartbeats 2000000 in
theorem lh_14_3 (l : Let) (w : World) (y : Int) (hin : l.inW w) (hg : ErrT w) (hy : y ≠ 0) (hk3 : l.kind = 3) (b5 b6 b7 b8 : Nat) : ∀ (u3 u4 u9 u10 u11 u12 u13 u14 u15 u16 u17 u18 u19 u20 u21 u22 u23 u24 u25 u26 u27 u28 u29 u30 u31 u32 u33 u34 u35 u36 u37 u38 u39 u40 u41 u42 u43 u44 u45 u46 u47 u48 u49 u50 u51 u52 u53 u54 u55 u56 u57 u58 u59 u60 u61 u62 u63 u64 u65 u66 u67 u68 u69 u70 u71 u72 u73 u74 u75 u76 u77 u78 u79 u80 u81 u82 u83 u84 u85 u86 u87 u88 u89 u90 u91 u92 u93 u94 u95 u96 u97 u98 u99 u100 u101 u102 u103 u104 u105 u106 u107 u108 u109 u110 u111 u112 u113 u114 u115 u116 u117 u118 u119 u120 u121 u122 u123 u124 u125 u126 u127 u128 u129 u130 u131 u132 u133 u134 u135 u136 u137 u138 u139 u140 u141 u142 u143 u144 u145 : Value) (W : World) (K : Act → World → Prop), Four9 l w y b5 b6 b7 b8 W → (∀ a w1, Code.wp Tryd.prog lhR (bodyPost Tryd.prog Tryd.f3 (LhPost w)) a w1 → K a w1) →
    Code.wp Tryd.prog lh14 (Exit.then K (bodyPost Tryd.prog Tryd.f3 (LhPost w))) ⟨#[.agg l.arr, .int .i64 y, .pointer (some ⟨w.heap.size, 0, none⟩), u3, u4, .pointer (some ⟨b5, 0, none⟩), .pointer (some ⟨b6, 0, none⟩), .pointer (some ⟨b7, 0, none⟩), .pointer (some ⟨b8, 0, none⟩), u9, u10, u11, u12, u13, u14, u15, u16, u17, u18, u19, u20, u21, u22, u23, u24, u25, u26, u27, u28, u29, u30, u31, u32, u33, u34, u35, u36, u37, u38, u39, u40, u41, u42, u43, u44, u45, u46, u47, u48, u49, u50, u51, u52, u53, u54, u55, u56, u57, u58, u59, u60, u61, u62, u63, u64, u65, u66, u67, u68, u69, u70, u71, u72, u73, u74, u75, u76, u77, u78, u79, u80, u81, u82, u83, u84, u85, u86, u87, u88, u89, u90, u91, u92, u93, u94, u95, u96, u97, u98, u99, u100, u101, u102, u103, u104, u105, u106, u107, u108, u109, u110, u111, u112, u113, u114, u115, u116, u117, u118, u119, u120, u121, u122, u123, u124, u125, u126, u127, u128, u129, u130, u131, u132, u133, u134, u135, u136, u137, u138, u139, u140, u141, u142, u143, u144, u145], []⟩ W := by
  intro u3 u4 u9 u10 u11 u12 u13 u14 u15 u16 u17 u18 u19 u20 u21 u22 u23 u24 u25 u26 u27 u28 u29 u30 u31 u32 u33 u34 u35 u36 u37 u38 u39 u40 u41 u42 u43 u44 u45 u46 u47 u48 u49 u50 u51 u52 u53 u54 u55 u56 u57 u58 u59 u60 u61 u62 u63 u64 u65 u66 u67 u68 u69 u70 u71 u72 u73 u74 u75 u76 u77 u78 u79 u80 u81 u82 u83 u84 u85 u86 u87 u88 u89 u90 u91 u92 u93 u94 u95 u96 u97 u98 u99 u100 u101 u102 u103 u104 u105 u106 u107 u108 u109 u110 u111 u112 u113 u114 u115 u116 u117 u118 u119 u120 u121 u122 u123 u124 u125 u126 u127 u128 u129 u130 u131 u132 u133 u134 u135 u136 u137 u138 u139 u140 u141 u142 u143 u144 u145 wn8 K hF hK
  conv => arg 2; whnf
  have HI := Lib.hid hin
  have HG := Lib.hid hg
  have HF9 := Lib.hid hF
  clear hin hg hF
  obtain ⟨aE, aG, ⟨l5, g5, s5, p5⟩, ⟨l6, g6, s6, p6⟩, ⟨l7, g7, s7, p7⟩, ⟨l8, g8, s8, p8⟩⟩ := HF9.out
  have HG5 := Lib.hid g5
  have HG6 := Lib.hid g6
  have HG7 := Lib.hid g7
  have HG8 := Lib.hid g8
  have HE := Lib.hid aE
  have n5 : l.kind ≠ 4 → rightL l5 = false := fun h => not_index (by rw [s5.1]; exact h) (by rw [p5]; exact hy)
  have n6 : l.kind ≠ 3 → rightL l6 = false := fun h => not_commit (by rw [s6.1]; exact h) (by rw [p6]; exact hy)
  have n7 : l.kind ≠ 3 → rightL l7 = false := fun h => not_prev (by rw [s7.1]; exact h) (by rw [p7]; exact hy)
  have n8 : l.kind ≠ 2 → l.kind ≠ 4 → l.kind ≠ 6 → rightL l8 = false := fun h2 h4 h6 => not_yes (by rw [s8.1]; exact h2) (by rw [s8.1]; exact h4) (by rw [s8.1]; exact h6) p8
  have i5 := Lib.hid (s5.inW HI.out)
  have i6 := Lib.hid (s6.inW HI.out)
  have i7 := Lib.hid (s7.inW HI.out)
  have i8 := Lib.hid (s8.inW HI.out)
  have r0 := cell_of_heap aG
  have HG0 := Lib.hid aG
  clear g5 g6 g7 g8 aE aG s5 s6 s7 s8 p5 p6 p7 p8
  have q2 : (l.kind == 2) = false := by rw [hk3]; rfl
  have q3 : (l.kind == 3) = true := by simpa using hk3
  have q4 : (l.kind == 4) = false := by rw [hk3]; rfl
  have q6 : (l.kind == 6) = false := by rw [hk3]; rfl
  have z5 := n5 (by omega)
  have z8 := n8 (by omega) (by omega) (by omega)
  clear n5 n6 n7 n8 hk3
  go_wp2_with (refine wpList_load_letW (by rfl) (.tmp 5) rfl b5 l5 rfl HG5.out ?_)
  refine (Right_any l5 _ (i5.out.ext HE.out) (HG.out.ext HE.out)).mono ?_
  rintro e v1 ⟨rfl, hE1⟩
  rw [z5]
  have hX1 := Lib.hid hE1
  have HE1 := Lib.hid (HE.out.trans hE1)
  have t1 := cell_of_heap (hX1.out.blk HG0.out)
  clear hE1
  iterate 75 (first | go_values | go_skip | go_guarded | go_step | go_upon | go_back | (simp only [Int.not_lt, Int.not_le] at *; go_simp))
  refine wpList_load_letW (by rfl) (.tmp 8) rfl b8 l8 rfl (hX1.out.blk HG8.out) ?_
  go_wp2_with fail
  refine (Right_any l8 _ (i8.out.ext HE1.out) (HG.out.ext HE1.out)).mono ?_
  rintro e v2 ⟨rfl, hE2⟩
  rw [z8]
  have hX2 := Lib.hid (hX1.out.trans hE2)
  have HE2 := Lib.hid (HE1.out.trans hE2)
  have t2 := cell_of_heap (hX2.out.blk HG0.out)
  clear hE2
  go_wp2_with fail
  conv => arg 2; whnf
  go_wp2_with fail
  go_ret
  exact ⟨rfl, HE2.out⟩
end Go.Proofs.YtcapapnhlkmeaaaDoor
namespace Go.Proofs.YtcapapnhlkmeaaaDoor
open Go.RowKit

set_option maxRecDepth 100000 in
set_option maxHeartbeats 2000000 in
theorem lh_14_4 (l : Let) (w : World) (y : Int) (hin : l.inW w) (hg : ErrT w) (hy : y ≠ 0) (hk4 : l.kind = 4) (b5 b6 b7 b8 : Nat) : ∀ (u3 u4 u9 u10 u11 u12 u13 u14 u15 u16 u17 u18 u19 u20 u21 u22 u23 u24 u25 u26 u27 u28 u29 u30 u31 u32 u33 u34 u35 u36 u37 u38 u39 u40 u41 u42 u43 u44 u45 u46 u47 u48 u49 u50 u51 u52 u53 u54 u55 u56 u57 u58 u59 u60 u61 u62 u63 u64 u65 u66 u67 u68 u69 u70 u71 u72 u73 u74 u75 u76 u77 u78 u79 u80 u81 u82 u83 u84 u85 u86 u87 u88 u89 u90 u91 u92 u93 u94 u95 u96 u97 u98 u99 u100 u101 u102 u103 u104 u105 u106 u107 u108 u109 u110 u111 u112 u113 u114 u115 u116 u117 u118 u119 u120 u121 u122 u123 u124 u125 u126 u127 u128 u129 u130 u131 u132 u133 u134 u135 u136 u137 u138 u139 u140 u141 u142 u143 u144 u145 : Value) (W : World) (K : Act → World → Prop), Four9 l w y b5 b6 b7 b8 W → (∀ a w1, Code.wp Tryd.prog lhR (bodyPost Tryd.prog Tryd.f3 (LhPost w)) a w1 → K a w1) →
    Code.wp Tryd.prog lh14 (Exit.then K (bodyPost Tryd.prog Tryd.f3 (LhPost w))) ⟨#[.agg l.arr, .int .i64 y, .pointer (some ⟨w.heap.size, 0, none⟩), u3, u4, .pointer (some ⟨b5, 0, none⟩), .pointer (some ⟨b6, 0, none⟩), .pointer (some ⟨b7, 0, none⟩), .pointer (some ⟨b8, 0, none⟩), u9, u10, u11, u12, u13, u14, u15, u16, u17, u18, u19, u20, u21, u22, u23, u24, u25, u26, u27, u28, u29, u30, u31, u32, u33, u34, u35, u36, u37, u38, u39, u40, u41, u42, u43, u44, u45, u46, u47, u48, u49, u50, u51, u52, u53, u54, u55, u56, u57, u58, u59, u60, u61, u62, u63, u64, u65, u66, u67, u68, u69, u70, u71, u72, u73, u74, u75, u76, u77, u78, u79, u80, u81, u82, u83, u84, u85, u86, u87, u88, u89, u90, u91, u92, u93, u94, u95, u96, u97, u98, u99, u100, u101, u102, u103, u104, u105, u106, u107, u108, u109, u110, u111, u112, u113, u114, u115, u116, u117, u118, u119, u120, u121, u122, u123, u124, u125, u126, u127, u128, u129, u130, u131, u132, u133, u134, u135, u136, u137, u138, u139, u140, u141, u142, u143, u144, u145], []⟩ W := by
  intro u3 u4 u9 u10 u11 u12 u13 u14 u15 u16 u17 u18 u19 u20 u21 u22 u23 u24 u25 u26 u27 u28 u29 u30 u31 u32 u33 u34 u35 u36 u37 u38 u39 u40 u41 u42 u43 u44 u45 u46 u47 u48 u49 u50 u51 u52 u53 u54 u55 u56 u57 u58 u59 u60 u61 u62 u63 u64 u65 u66 u67 u68 u69 u70 u71 u72 u73 u74 u75 u76 u77 u78 u79 u80 u81 u82 u83 u84 u85 u86 u87 u88 u89 u90 u91 u92 u93 u94 u95 u96 u97 u98 u99 u100 u101 u102 u103 u104 u105 u106 u107 u108 u109 u110 u111 u112 u113 u114 u115 u116 u117 u118 u119 u120 u121 u122 u123 u124 u125 u126 u127 u128 u129 u130 u131 u132 u133 u134 u135 u136 u137 u138 u139 u140 u141 u142 u143 u144 u145 wn8 K hF hK
  conv => arg 2; whnf
  have HI := Lib.hid hin
  have HG := Lib.hid hg
  have HF9 := Lib.hid hF
  clear hin hg hF
  obtain ⟨aE, aG, ⟨l5, g5, s5, p5⟩, ⟨l6, g6, s6, p6⟩, ⟨l7, g7, s7, p7⟩, ⟨l8, g8, s8, p8⟩⟩ := HF9.out
  have HG5 := Lib.hid g5
  have HG6 := Lib.hid g6
  have HG7 := Lib.hid g7
  have HG8 := Lib.hid g8
  have HE := Lib.hid aE
  have n5 : l.kind ≠ 4 → rightL l5 = false := fun h => not_index (by rw [s5.1]; exact h) (by rw [p5]; exact hy)
  have n6 : l.kind ≠ 3 → rightL l6 = false := fun h => not_commit (by rw [s6.1]; exact h) (by rw [p6]; exact hy)
  have n7 : l.kind ≠ 3 → rightL l7 = false := fun h => not_prev (by rw [s7.1]; exact h) (by rw [p7]; exact hy)
  have n8 : l.kind ≠ 2 → l.kind ≠ 4 → l.kind ≠ 6 → rightL l8 = false := fun h2 h4 h6 => not_yes (by rw [s8.1]; exact h2) (by rw [s8.1]; exact h4) (by rw [s8.1]; exact h6) p8
  have i5 := Lib.hid (s5.inW HI.out)
  have i6 := Lib.hid (s6.inW HI.out)
  have i7 := Lib.hid (s7.inW HI.out)
  have i8 := Lib.hid (s8.inW HI.out)
  have r0 := cell_of_heap aG
  have HG0 := Lib.hid aG
  clear g5 g6 g7 g8 aE aG s5 s6 s7 s8 p5 p6 p7 p8
  have q2 : (l.kind == 2) = false := by rw [hk4]; rfl
  have q3 : (l.kind == 3) = false := by rw [hk4]; rfl
  have q4 : (l.kind == 4) = true := by simpa using hk4
  have q6 : (l.kind == 6) = false := by rw [hk4]; rfl
  have z6 := n6 (by omega)
  have z7 := n7 (by omega)
  clear n5 n6 n7 n8 hk4
  go_wp2_with (refine wpList_load_letW (by rfl) (.tmp 6) rfl b6 l6 rfl HG6.out ?_)
  refine (Right_any l6 _ (i6.out.ext HE.out) (HG.out.ext HE.out)).mono ?_
  rintro e v1 ⟨rfl, hE1⟩
  rw [z6]
  have hX1 := Lib.hid hE1
  have HE1 := Lib.hid (HE.out.trans hE1)
  have t1 := cell_of_heap (hX1.out.blk HG0.out)
  clear hE1
  go_wp2_with (refine wpList_load_letW (by rfl) (.tmp 7) rfl b7 l7 rfl (hX1.out.blk HG7.out) ?_)
  refine (Right_any l7 _ (i7.out.ext HE1.out) (HG.out.ext HE1.out)).mono ?_
  rintro e v2 ⟨rfl, hE2⟩
  rw [z7]
  have hX2 := Lib.hid (hX1.out.trans hE2)
  have HE2 := Lib.hid (HE1.out.trans hE2)
  have t2 := cell_of_heap (hX2.out.blk HG0.out)
  clear hE2
  go_wp2_with fail
  conv => arg 2; whnf
  go_wp2_with fail
  go_ret
  exact ⟨rfl, HE2.out⟩
end Go.Proofs.YtcapapnhlkmeaaaDoor
namespace Go.Proofs.YtcapapnhlkmeaaaDoor
open Go.RowKit

set_option maxRecDepth 100000 in
set_option maxHeartbeats 2000000 in
theorem lh_14_6 (l : Let) (w : World) (y : Int) (hin : l.inW w) (hg : ErrT w) (hy : y ≠ 0) (hk6 : l.kind = 6) (b5 b6 b7 b8 : Nat) : ∀ (u3 u4 u9 u10 u11 u12 u13 u14 u15 u16 u17 u18 u19 u20 u21 u22 u23 u24 u25 u26 u27 u28 u29 u30 u31 u32 u33 u34 u35 u36 u37 u38 u39 u40 u41 u42 u43 u44 u45 u46 u47 u48 u49 u50 u51 u52 u53 u54 u55 u56 u57 u58 u59 u60 u61 u62 u63 u64 u65 u66 u67 u68 u69 u70 u71 u72 u73 u74 u75 u76 u77 u78 u79 u80 u81 u82 u83 u84 u85 u86 u87 u88 u89 u90 u91 u92 u93 u94 u95 u96 u97 u98 u99 u100 u101 u102 u103 u104 u105 u106 u107 u108 u109 u110 u111 u112 u113 u114 u115 u116 u117 u118 u119 u120 u121 u122 u123 u124 u125 u126 u127 u128 u129 u130 u131 u132 u133 u134 u135 u136 u137 u138 u139 u140 u141 u142 u143 u144 u145 : Value) (W : World) (K : Act → World → Prop), Four9 l w y b5 b6 b7 b8 W → (∀ a w1, Code.wp Tryd.prog lhR (bodyPost Tryd.prog Tryd.f3 (LhPost w)) a w1 → K a w1) →
    Code.wp Tryd.prog lh14 (Exit.then K (bodyPost Tryd.prog Tryd.f3 (LhPost w))) ⟨#[.agg l.arr, .int .i64 y, .pointer (some ⟨w.heap.size, 0, none⟩), u3, u4, .pointer (some ⟨b5, 0, none⟩), .pointer (some ⟨b6, 0, none⟩), .pointer (some ⟨b7, 0, none⟩), .pointer (some ⟨b8, 0, none⟩), u9, u10, u11, u12, u13, u14, u15, u16, u17, u18, u19, u20, u21, u22, u23, u24, u25, u26, u27, u28, u29, u30, u31, u32, u33, u34, u35, u36, u37, u38, u39, u40, u41, u42, u43, u44, u45, u46, u47, u48, u49, u50, u51, u52, u53, u54, u55, u56, u57, u58, u59, u60, u61, u62, u63, u64, u65, u66, u67, u68, u69, u70, u71, u72, u73, u74, u75, u76, u77, u78, u79, u80, u81, u82, u83, u84, u85, u86, u87, u88, u89, u90, u91, u92, u93, u94, u95, u96, u97, u98, u99, u100, u101, u102, u103, u104, u105, u106, u107, u108, u109, u110, u111, u112, u113, u114, u115, u116, u117, u118, u119, u120, u121, u122, u123, u124, u125, u126, u127, u128, u129, u130, u131, u132, u133, u134, u135, u136, u137, u138, u139, u140, u141, u142, u143, u144, u145], []⟩ W := by
  intro u3 u4 u9 u10 u11 u12 u13 u14 u15 u16 u17 u18 u19 u20 u21 u22 u23 u24 u25 u26 u27 u28 u29 u30 u31 u32 u33 u34 u35 u36 u37 u38 u39 u40 u41 u42 u43 u44 u45 u46 u47 u48 u49 u50 u51 u52 u53 u54 u55 u56 u57 u58 u59 u60 u61 u62 u63 u64 u65 u66 u67 u68 u69 u70 u71 u72 u73 u74 u75 u76 u77 u78 u79 u80 u81 u82 u83 u84 u85 u86 u87 u88 u89 u90 u91 u92 u93 u94 u95 u96 u97 u98 u99 u100 u101 u102 u103 u104 u105 u106 u107 u108 u109 u110 u111 u112 u113 u114 u115 u116 u117 u118 u119 u120 u121 u122 u123 u124 u125 u126 u127 u128 u129 u130 u131 u132 u133 u134 u135 u136 u137 u138 u139 u140 u141 u142 u143 u144 u145 wn8 K hF hK
  conv => arg 2; whnf
  have HI := Lib.hid hin
  have HG := Lib.hid hg
  have HF9 := Lib.hid hF
  clear hin hg hF
  obtain ⟨aE, aG, ⟨l5, g5, s5, p5⟩, ⟨l6, g6, s6, p6⟩, ⟨l7, g7, s7, p7⟩, ⟨l8, g8, s8, p8⟩⟩ := HF9.out
  have HG5 := Lib.hid g5
  have HG6 := Lib.hid g6
  have HG7 := Lib.hid g7
  have HG8 := Lib.hid g8
  have HE := Lib.hid aE
  have n5 : l.kind ≠ 4 → rightL l5 = false := fun h => not_index (by rw [s5.1]; exact h) (by rw [p5]; exact hy)
  have n6 : l.kind ≠ 3 → rightL l6 = false := fun h => not_commit (by rw [s6.1]; exact h) (by rw [p6]; exact hy)
  have n7 : l.kind ≠ 3 → rightL l7 = false := fun h => not_prev (by rw [s7.1]; exact h) (by rw [p7]; exact hy)
  have n8 : l.kind ≠ 2 → l.kind ≠ 4 → l.kind ≠ 6 → rightL l8 = false := fun h2 h4 h6 => not_yes (by rw [s8.1]; exact h2) (by rw [s8.1]; exact h4) (by rw [s8.1]; exact h6) p8
  have i5 := Lib.hid (s5.inW HI.out)
  have i6 := Lib.hid (s6.inW HI.out)
  have i7 := Lib.hid (s7.inW HI.out)
  have i8 := Lib.hid (s8.inW HI.out)
  have r0 := cell_of_heap aG
  have HG0 := Lib.hid aG
  clear g5 g6 g7 g8 aE aG s5 s6 s7 s8 p5 p6 p7 p8
  have q2 : (l.kind == 2) = false := by rw [hk6]; rfl
  have q3 : (l.kind == 3) = false := by rw [hk6]; rfl
  have q4 : (l.kind == 4) = false := by rw [hk6]; rfl
  have q6 : (l.kind == 6) = true := by simpa using hk6
  have z5 := n5 (by omega)
  have z6 := n6 (by omega)
  have z7 := n7 (by omega)
  clear n5 n6 n7 n8 hk6
  go_wp2_with (refine wpList_load_letW (by rfl) (.tmp 5) rfl b5 l5 rfl HG5.out ?_)
  refine (Right_any l5 _ (i5.out.ext HE.out) (HG.out.ext HE.out)).mono ?_
  rintro e v1 ⟨rfl, hE1⟩
  rw [z5]
  have hX1 := Lib.hid hE1
  have HE1 := Lib.hid (HE.out.trans hE1)
  have t1 := cell_of_heap (hX1.out.blk HG0.out)
  clear hE1
  go_wp2_with (refine wpList_load_letW (by rfl) (.tmp 6) rfl b6 l6 rfl (hX1.out.blk HG6.out) ?_)
  refine (Right_any l6 _ (i6.out.ext HE1.out) (HG.out.ext HE1.out)).mono ?_
  rintro e v2 ⟨rfl, hE2⟩
  rw [z6]
  have hX2 := Lib.hid (hX1.out.trans hE2)
  have HE2 := Lib.hid (HE1.out.trans hE2)
  have t2 := cell_of_heap (hX2.out.blk HG0.out)
  clear hE2
  go_wp2_with (refine wpList_load_letW (by rfl) (.tmp 7) rfl b7 l7 rfl (hX2.out.blk HG7.out) ?_)
  refine (Right_any l7 _ (i7.out.ext HE2.out) (HG.out.ext HE2.out)).mono ?_
  rintro e v3 ⟨rfl, hE3⟩
  rw [z7]
  have hX3 := Lib.hid (hX2.out.trans hE3)
  have HE3 := Lib.hid (HE2.out.trans hE3)
  have t3 := cell_of_heap (hX3.out.blk HG0.out)
  clear hE3
  go_wp2_with fail
  conv => arg 2; whnf
  go_wp2_with fail
  go_ret
  exact ⟨rfl, HE3.out⟩
end Go.Proofs.YtcapapnhlkmeaaaDoor
namespace Go.Proofs.YtcapapnhlkmeaaaDoor
open Go.RowKit

set_option maxRecDepth 100000 in
set_option maxHeartbeats 2000000 in
theorem lh_14_o (l : Let) (w : World) (y : Int) (hin : l.inW w) (hg : ErrT w) (hy : y ≠ 0) (hk2 : l.kind ≠ 2) (hk3 : l.kind ≠ 3) (hk4 : l.kind ≠ 4) (hk6 : l.kind ≠ 6) (b5 b6 b7 b8 : Nat) : ∀ (u3 u4 u9 u10 u11 u12 u13 u14 u15 u16 u17 u18 u19 u20 u21 u22 u23 u24 u25 u26 u27 u28 u29 u30 u31 u32 u33 u34 u35 u36 u37 u38 u39 u40 u41 u42 u43 u44 u45 u46 u47 u48 u49 u50 u51 u52 u53 u54 u55 u56 u57 u58 u59 u60 u61 u62 u63 u64 u65 u66 u67 u68 u69 u70 u71 u72 u73 u74 u75 u76 u77 u78 u79 u80 u81 u82 u83 u84 u85 u86 u87 u88 u89 u90 u91 u92 u93 u94 u95 u96 u97 u98 u99 u100 u101 u102 u103 u104 u105 u106 u107 u108 u109 u110 u111 u112 u113 u114 u115 u116 u117 u118 u119 u120 u121 u122 u123 u124 u125 u126 u127 u128 u129 u130 u131 u132 u133 u134 u135 u136 u137 u138 u139 u140 u141 u142 u143 u144 u145 : Value) (W : World) (K : Act → World → Prop), Four9 l w y b5 b6 b7 b8 W → (∀ a w1, Code.wp Tryd.prog lhR (bodyPost Tryd.prog Tryd.f3 (LhPost w)) a w1 → K a w1) →
    Code.wp Tryd.prog lh14 (Exit.then K (bodyPost Tryd.prog Tryd.f3 (LhPost w))) ⟨#[.agg l.arr, .int .i64 y, .pointer (some ⟨w.heap.size, 0, none⟩), u3, u4, .pointer (some ⟨b5, 0, none⟩), .pointer (some ⟨b6, 0, none⟩), .pointer (some ⟨b7, 0, none⟩), .pointer (some ⟨b8, 0, none⟩), u9, u10, u11, u12, u13, u14, u15, u16, u17, u18, u19, u20, u21, u22, u23, u24, u25, u26, u27, u28, u29, u30, u31, u32, u33, u34, u35, u36, u37, u38, u39, u40, u41, u42, u43, u44, u45, u46, u47, u48, u49, u50, u51, u52, u53, u54, u55, u56, u57, u58, u59, u60, u61, u62, u63, u64, u65, u66, u67, u68, u69, u70, u71, u72, u73, u74, u75, u76, u77, u78, u79, u80, u81, u82, u83, u84, u85, u86, u87, u88, u89, u90, u91, u92, u93, u94, u95, u96, u97, u98, u99, u100, u101, u102, u103, u104, u105, u106, u107, u108, u109, u110, u111, u112, u113, u114, u115, u116, u117, u118, u119, u120, u121, u122, u123, u124, u125, u126, u127, u128, u129, u130, u131, u132, u133, u134, u135, u136, u137, u138, u139, u140, u141, u142, u143, u144, u145], []⟩ W := by
  intro u3 u4 u9 u10 u11 u12 u13 u14 u15 u16 u17 u18 u19 u20 u21 u22 u23 u24 u25 u26 u27 u28 u29 u30 u31 u32 u33 u34 u35 u36 u37 u38 u39 u40 u41 u42 u43 u44 u45 u46 u47 u48 u49 u50 u51 u52 u53 u54 u55 u56 u57 u58 u59 u60 u61 u62 u63 u64 u65 u66 u67 u68 u69 u70 u71 u72 u73 u74 u75 u76 u77 u78 u79 u80 u81 u82 u83 u84 u85 u86 u87 u88 u89 u90 u91 u92 u93 u94 u95 u96 u97 u98 u99 u100 u101 u102 u103 u104 u105 u106 u107 u108 u109 u110 u111 u112 u113 u114 u115 u116 u117 u118 u119 u120 u121 u122 u123 u124 u125 u126 u127 u128 u129 u130 u131 u132 u133 u134 u135 u136 u137 u138 u139 u140 u141 u142 u143 u144 u145 wn8 K hF hK
  conv => arg 2; whnf
  have HI := Lib.hid hin
  have HG := Lib.hid hg
  have HF9 := Lib.hid hF
  clear hin hg hF
  obtain ⟨aE, aG, ⟨l5, g5, s5, p5⟩, ⟨l6, g6, s6, p6⟩, ⟨l7, g7, s7, p7⟩, ⟨l8, g8, s8, p8⟩⟩ := HF9.out
  have HG5 := Lib.hid g5
  have HG6 := Lib.hid g6
  have HG7 := Lib.hid g7
  have HG8 := Lib.hid g8
  have HE := Lib.hid aE
  have n5 : l.kind ≠ 4 → rightL l5 = false := fun h => not_index (by rw [s5.1]; exact h) (by rw [p5]; exact hy)
  have n6 : l.kind ≠ 3 → rightL l6 = false := fun h => not_commit (by rw [s6.1]; exact h) (by rw [p6]; exact hy)
  have n7 : l.kind ≠ 3 → rightL l7 = false := fun h => not_prev (by rw [s7.1]; exact h) (by rw [p7]; exact hy)
  have n8 : l.kind ≠ 2 → l.kind ≠ 4 → l.kind ≠ 6 → rightL l8 = false := fun h2 h4 h6 => not_yes (by rw [s8.1]; exact h2) (by rw [s8.1]; exact h4) (by rw [s8.1]; exact h6) p8
  have i5 := Lib.hid (s5.inW HI.out)
  have i6 := Lib.hid (s6.inW HI.out)
  have i7 := Lib.hid (s7.inW HI.out)
  have i8 := Lib.hid (s8.inW HI.out)
  have r0 := cell_of_heap aG
  have HG0 := Lib.hid aG
  clear g5 g6 g7 g8 aE aG s5 s6 s7 s8 p5 p6 p7 p8
  have q2 : (l.kind == 2) = false := by simpa using hk2
  have q3 : (l.kind == 3) = false := by simpa using hk3
  have q4 : (l.kind == 4) = false := by simpa using hk4
  have q6 : (l.kind == 6) = false := by simpa using hk6
  have z5 := n5 (by omega)
  have z6 := n6 (by omega)
  have z7 := n7 (by omega)
  have z8 := n8 (by omega) (by omega) (by omega)
  clear n5 n6 n7 n8 hk2 hk3 hk4 hk6
  go_wp2_with (refine wpList_load_letW (by rfl) (.tmp 5) rfl b5 l5 rfl HG5.out ?_)
  refine (Right_any l5 _ (i5.out.ext HE.out) (HG.out.ext HE.out)).mono ?_
  rintro e v1 ⟨rfl, hE1⟩
  rw [z5]
  have hX1 := Lib.hid hE1
  have HE1 := Lib.hid (HE.out.trans hE1)
  have t1 := cell_of_heap (hX1.out.blk HG0.out)
  clear hE1
  go_wp2_with (refine wpList_load_letW (by rfl) (.tmp 6) rfl b6 l6 rfl (hX1.out.blk HG6.out) ?_)
  refine (Right_any l6 _ (i6.out.ext HE1.out) (HG.out.ext HE1.out)).mono ?_
  rintro e v2 ⟨rfl, hE2⟩
  rw [z6]
  have hX2 := Lib.hid (hX1.out.trans hE2)
  have HE2 := Lib.hid (HE1.out.trans hE2)
  have t2 := cell_of_heap (hX2.out.blk HG0.out)
  clear hE2
  go_wp2_with (refine wpList_load_letW (by rfl) (.tmp 7) rfl b7 l7 rfl (hX2.out.blk HG7.out) ?_)
  refine (Right_any l7 _ (i7.out.ext HE2.out) (HG.out.ext HE2.out)).mono ?_
  rintro e v3 ⟨rfl, hE3⟩
  rw [z7]
  have hX3 := Lib.hid (hX2.out.trans hE3)
  have HE3 := Lib.hid (HE2.out.trans hE3)
  have t3 := cell_of_heap (hX3.out.blk HG0.out)
  clear hE3
  go_wp2_with (refine wpList_load_letW (by rfl) (.tmp 8) rfl b8 l8 rfl (hX3.out.blk HG8.out) ?_)
  refine (Right_any l8 _ (i8.out.ext HE3.out) (HG.out.ext HE3.out)).mono ?_
  rintro e v4 ⟨rfl, hE4⟩
  rw [z8]
  have hX4 := Lib.hid (hX3.out.trans hE4)
  have HE4 := Lib.hid (HE3.out.trans hE4)
  have t4 := cell_of_heap (hX4.out.blk HG0.out)
  clear hE4
  go_wp2_with fail
  conv => arg 2; whnf
  go_wp2_with fail
  go_ret
  exact ⟨rfl, HE4.out⟩
end Go.Proofs.YtcapapnhlkmeaaaDoor
namespace Go.Proofs.YtcapapnhlkmeaaaDoor
open Go.RowKit

theorem lh_14 (l : Let) (w : World) (y : Int) (hin : l.inW w) (hg : ErrT w) (hy : y ≠ 0) (b5 b6 b7 b8 : Nat) : ∀ (u3 u4 u9 u10 u11 u12 u13 u14 u15 u16 u17 u18 u19 u20 u21 u22 u23 u24 u25 u26 u27 u28 u29 u30 u31 u32 u33 u34 u35 u36 u37 u38 u39 u40 u41 u42 u43 u44 u45 u46 u47 u48 u49 u50 u51 u52 u53 u54 u55 u56 u57 u58 u59 u60 u61 u62 u63 u64 u65 u66 u67 u68 u69 u70 u71 u72 u73 u74 u75 u76 u77 u78 u79 u80 u81 u82 u83 u84 u85 u86 u87 u88 u89 u90 u91 u92 u93 u94 u95 u96 u97 u98 u99 u100 u101 u102 u103 u104 u105 u106 u107 u108 u109 u110 u111 u112 u113 u114 u115 u116 u117 u118 u119 u120 u121 u122 u123 u124 u125 u126 u127 u128 u129 u130 u131 u132 u133 u134 u135 u136 u137 u138 u139 u140 u141 u142 u143 u144 u145 : Value) (W : World) (K : Act → World → Prop), Four9 l w y b5 b6 b7 b8 W → (∀ a w1, Code.wp Tryd.prog lhR (bodyPost Tryd.prog Tryd.f3 (LhPost w)) a w1 → K a w1) →
    Code.wp Tryd.prog lh14 (Exit.then K (bodyPost Tryd.prog Tryd.f3 (LhPost w))) ⟨#[.agg l.arr, .int .i64 y, .pointer (some ⟨w.heap.size, 0, none⟩), u3, u4, .pointer (some ⟨b5, 0, none⟩), .pointer (some ⟨b6, 0, none⟩), .pointer (some ⟨b7, 0, none⟩), .pointer (some ⟨b8, 0, none⟩), u9, u10, u11, u12, u13, u14, u15, u16, u17, u18, u19, u20, u21, u22, u23, u24, u25, u26, u27, u28, u29, u30, u31, u32, u33, u34, u35, u36, u37, u38, u39, u40, u41, u42, u43, u44, u45, u46, u47, u48, u49, u50, u51, u52, u53, u54, u55, u56, u57, u58, u59, u60, u61, u62, u63, u64, u65, u66, u67, u68, u69, u70, u71, u72, u73, u74, u75, u76, u77, u78, u79, u80, u81, u82, u83, u84, u85, u86, u87, u88, u89, u90, u91, u92, u93, u94, u95, u96, u97, u98, u99, u100, u101, u102, u103, u104, u105, u106, u107, u108, u109, u110, u111, u112, u113, u114, u115, u116, u117, u118, u119, u120, u121, u122, u123, u124, u125, u126, u127, u128, u129, u130, u131, u132, u133, u134, u135, u136, u137, u138, u139, u140, u141, u142, u143, u144, u145], []⟩ W := by
  by_cases hk4 : l.kind = 4
  · exact lh_14_4 l w y hin hg hy hk4 b5 b6 b7 b8
  by_cases hk3 : l.kind = 3
  · exact lh_14_3 l w y hin hg hy hk3 b5 b6 b7 b8
  by_cases hk2 : l.kind = 2
  · exact lh_14_2 l w y hin hg hy hk2 b5 b6 b7 b8
  by_cases hk6 : l.kind = 6
  · exact lh_14_6 l w y hin hg hy hk6 b5 b6 b7 b8
  exact lh_14_o l w y hin hg hy hk2 hk3 hk4 hk6 b5 b6 b7 b8
theorem letterHas_any (l : Let) (y : Int) (w : World) (hin : l.inW w) (hg : ErrT w) : Calls Tryd.prog 3 #[l.v, .int .i64 y] w (LhPost w) := by
  refine letterHas_front l y w hin hg ?_
  intro hy hr u3 u4 u5 u6 u7 u8 u9 u10 u11 u12 u13 u14 u15 u16 u17 u18 u19 u20 u21 u22 u23 u24 u25 u26 u27 u28 u29 u30 u31 u32 u33 u34 u35 u36 u37 u38 u39 u40 u41 u42 u43 u44 u45 u46 u47 u48 u49 u50 u51 u52 u53 u54 u55 u56 u57 u58 u59 u60 u61 u62 u63 u64 u65 u66 u67 u68 u69 u70 u71 u72 u73 u74 u75 u76 u77 u78 u79 u80 u81 u82 u83 u84 u85 u86 u87 u88 u89 u90 u91 u92 u93 u94 u95 u96 u97 u98 u99 u100 u101 u102 u103 u104 u105 u106 u107 u108 u109 u110 u111 u112 u113 u114 u115 u116 u117 u118 u119 u120 u121 u122 u123 u124 u125 u126 u127 u128 u129 u130 u131 u132 u133 u134 u135 u136 u137 u138 u139 u140 u141 u142 u143 u144 u145 wx K hE hG hK
  refine lh_nine l w wx y hE hG u3 u4 u5 u6 u7 u8 u9 u10 u11 u12 u13 u14 u15 u16 u17 u18 u19 u20 u21 u22 u23 u24 u25 u26 u27 u28 u29 u30 u31 u32 u33 u34 u35 u36 u37 u38 u39 u40 u41 u42 u43 u44 u45 u46 u47 u48 u49 u50 u51 u52 u53 u54 u55 u56 u57 u58 u59 u60 u61 u62 u63 u64 u65 u66 u67 u68 u69 u70 u71 u72 u73 u74 u75 u76 u77 u78 u79 u80 u81 u82 u83 u84 u85 u86 u87 u88 u89 u90 u91 u92 u93 u94 u95 u96 u97 u98 u99 u100 u101 u102 u103 u104 u105 u106 u107 u108 u109 u110 u111 u112 u113 u114 u115 u116 u117 u118 u119 u120 u121 u122 u123 u124 u125 u126 u127 u128 u129 u130 u131 u132 u133 u134 u135 u136 u137 u138 u139 u140 u141 u142 u143 u144 u145 K _ ?_
  intro b5 b6 b7 b8 c3 c4 c5 c6 c7 c8 c9 c10 c11 c12 c13 c14 c15 c16 c17 c18 c19 c20 c21 c22 c23 c24 c25 c26 c27 c28 c29 c30 c31 c32 c33 c34 c35 c36 c37 c38 c39 c40 c41 c42 c43 c44 c45 c46 c47 c48 c49 c50 c51 c52 c53 c54 c55 c56 c57 c58 c59 c60 c61 c62 c63 c64 c65 c66 c67 c68 c69 c70 c71 c72 c73 c74 c75 c76 c77 c78 c79 c80 c81 c82 c83 c84 c85 c86 c87 c88 c89 c90 c91 c92 c93 c94 c95 c96 c97 c98 c99 c100 c101 c102 c103 c104 c105 c106 c107 c108 c109 c110 c111 c112 c113 c114 c115 c116 c117 c118 c119 c120 c121 c122 c123 c124 c125 c126 c127 c128 c129 c130 c131 c132 c133 c134 c135 c136 c137 c138 c139 c140 c141 c142 c143 c144 c145 W h5 h6 h7 h8 hF e5 e6 e7 e8
  subst e5 e6 e7 e8
  exact hK _ _ (lh_tail l w W y hin hg hy b5 b6 b7 b8 c3 c4 c9 c10 c11 c12 c13 c14 c15 c16 c17 c18 c19 c20 c21 c22 c23 c24 c25 c26 c27 c28 c29 c30 c31 c32 c33 c34 c35 c36 c37 c38 c39 c40 c41 c42 c43 c44 c45 c46 c47 c48 c49 c50 c51 c52 c53 c54 c55 c56 c57 c58 c59 c60 c61 c62 c63 c64 c65 c66 c67 c68 c69 c70 c71 c72 c73 c74 c75 c76 c77 c78 c79 c80 c81 c82 c83 c84 c85 c86 c87 c88 c89 c90 c91 c92 c93 c94 c95 c96 c97 c98 c99 c100 c101 c102 c103 c104 c105 c106 c107 c108 c109 c110 c111 c112 c113 c114 c115 c116 c117 c118 c119 c120 c121 c122 c123 c124 c125 c126 c127 c128 c129 c130 c131 c132 c133 c134 c135 c136 c137 c138 c139 c140 c141 c142 c143 c144 c145 h5 h6 h7 h8 (lh_14 l w y hin hg hy b5 b6 b7 b8) hF)
end Go.Proofs.YtcapapnhlkmeaaaDoor
