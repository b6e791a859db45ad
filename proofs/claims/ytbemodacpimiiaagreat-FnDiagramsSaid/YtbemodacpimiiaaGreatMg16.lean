/- Lemmas and contracts for a law, put together out of several texts: DuJ. -/
import Derived.Test.YtbemodacpimiiaaGreatMg14
import Derived.Test.YtbemodacpimiiaaGreatMg15
import Derived.Deep.DeepCutAuto
/- A part of the walk of FnDiagrams. Printed by gen_dui.py. -/
namespace Go.Proofs.YtbemodacpimiiaaGreat
open Go.RowKit
-- QPANIC

noncomputable def codeDu2 : Code := ((Tryz.f3.body.bind (findIf 255)).getD .skip)
set_option maxRecDepth 1000000 in
set_option maxHeartbeats 16000000 in
theorem FnDiagrams_p2 (ca : Option Addr) (cl cc : Nat) (w1 W0 W2 XE XW wn : World) (ok kn : Bool) (vars rr cn : Int) (B A1 A2 D1 D2 : Option Addr) (cap k1 k2 m1 m2 : Nat) (xss : List (List Int)) (F : List Nat) (nn : List Nd) (L : List Int) (hok : Hid (dCnf vars xss = ok)) (hrr : Hid (outR ok vars (modT xss) = rr)) (hnn : Hid (outN ok vars (modT xss) = nn)) (S1 : Hid (Sp w1 wn [Box XW.heap.size 26 #[.int .i64 rr, .slice A2 nn.length k2], Box XE.heap.size 26 #[.int .i64 rr, .slice A1 nn.length k1], Box W2.heap.size 45 #[.int .i64 vars, .slice B xss.length cap]])) (hR : Hid ((Ty.slice Ty.int).row false wn (.slice B xss.length cap) xss F)) (hE : Hid (NdAt wn A1 nn)) {u2 u21 u22 u23 u24 u25 u26 u27 u43 u44 u45 u46 u47 u48 u49 u50 u51 u52 u53 u54 u55 u56 u57 u58 u59 u60 u61 u62 u63 u64 u65 u66 u67 u68 u69 u70 u71 u72 u73 u74 u75 u76 u77 u78 u79 u80 u81 u82 u83 u84 u85 u86 u87 u88 u89 u90 u91 u92 u93 u94 u95 u96 u97 u98 u99 u100 u101 u102 u103 u104 u105 u106 u107 u108 u109 u110 u111 u112 u113 u114 u115 u116 u117 u118 u119 u120 u121 u122 u123 u124 u125 u126 u127 u128 u129 u130 u131 u132 u133 u134 u135 u136 u137 u138 u139 u140 u141 u142 u143 u144 u145 u146 u147 u148 u149 u150 u151 u152 u153 u154 u155 u156 u157 u158 u159 u160 u161 u162 u163 u164 u165 u166 u167 u168 u169 u170 u171 u172 u173 u174 u175 u176 u177 u178 u179 u180 u181 u182 u183 u184 u185 u186 u187 u188 u189 u190 u191 u192 u193 u194 u195 u196 u197 u198 u199 u200 u201 u202 u203 u204 u205 u206 u207 u208 u209 u210 u211 u212 u213 u214 u215 u216 u217 u218 u219 u220 u221 u222 u223 u224 u225 u226 u227 u228 u229 u230 u231 u232 u233 u256 u257 u258 u259 u260 u261 u262 u263 u264 u265 u266 u267 u268 u269 u270 u271 u272 u273 u274 u275 u276 u277 u278 u279 u280 u281 u282 u283 u284 u285 u286 u287 u288 u289 u290 u291 u292 u293 u294 u295 u296 u297 u298 u299 u300 u301 u302 u1003 u1005 u1006 u1007 u1008 u1009 u1010 u1011 u1012 u1014 u1016 : Value} {J K : Act → World → Prop} {Q : Exit → Act → World → Prop}
    (hJ : ∀ (a' : Act) (w' : World), (∃ u2 u33 u34 u35 u36 u43 u44 u45 u46 u47 u48 u49 u50 u51 u52 u53 u54 u55 u56 u57 u58 u59 u60 u61 u62 u63 u64 u65 u66 u67 u68 u69 u70 u71 u72 u73 u74 u75 u76 u77 u78 u79 u80 u81 u82 u83 u84 u85 u86 u87 u88 u89 u90 u91 u92 u93 u94 u95 u96 u97 u98 u99 u100 u101 u102 u103 u104 u105 u106 u107 u108 u109 u110 u111 u112 u113 u114 u115 u116 u117 u118 u119 u120 u121 u122 u123 u124 u125 u126 u127 u128 u129 u130 u131 u132 u133 u134 u135 u136 u137 u138 u139 u140 u141 u142 u143 u144 u145 u146 u147 u148 u149 u150 u151 u152 u153 u154 u155 u156 u157 u158 u159 u160 u161 u162 u163 u164 u165 u166 u167 u168 u169 u170 u171 u172 u173 u174 u175 u176 u177 u178 u179 u180 u181 u182 u183 u184 u185 u186 u187 u188 u189 u190 u191 u192 u193 u194 u195 u196 u197 u198 u199 u200 u201 u202 u203 u204 u205 u206 u207 u208 u209 u210 u211 u212 u213 u214 u215 u216 u217 u218 u219 u220 u221 u222 u223 u224 u225 u226 u227 u228 u229 u230 u231 u232 u233 u234 u235 u236 u237 u238 u239 u240 u241 u242 u243 u244 u245 u246 u247 u248 u249 u250 u251 u252 u253 u254 u255 u256 u257 u258 u259 u260 u261 u262 u263 u264 u265 u266 u267 u268 u269 u270 u271 u272 u273 u274 u275 u276 u277 u278 u279 u280 u281 u282 u283 u284 u285 u286 u287 u288 u289 u290 u291 u292 u293 u294 u295 u296 u297 u298 u299 u300 u301 u302 : Value,  Hid (Below w1.heap.size w1 w')  ∧ a' = { tmps := #[Value.slice ca cl cc, undef, u2, u1003, Value.pointer (some { block := W0.heap.size, off := 0 }), u1005, u1006, u1007, u1008, u1009, u1010, u1011, u1012, Value.int IntKind.i64 cn, u1014, Value.int IntKind.i64 cn, u1016, Value.slice D1 L.length m1, Value.bool kn, Value.slice D2 L.length m2, Value.bool kn, u21, u22, u23, u24, u25, u26, u27, Value.pointer (some { block := W2.heap.size, off := 0 }), Value.pointer (some { block := XE.heap.size, off := 0 }), Value.bool ok, Value.pointer (some { block := XW.heap.size, off := 0 }), Value.bool ok, u33, u34, u35, u36, undef, undef, undef, undef, undef, undef, u43, u44, u45, u46, u47, u48, u49, u50, u51, u52, u53, u54, u55, u56, u57, u58, u59, u60, u61, u62, u63, u64, u65, u66, u67, u68, u69, u70, u71, u72, u73, u74, u75, u76, u77, u78, u79, u80, u81, u82, u83, u84, u85, u86, u87, u88, u89, u90, u91, u92, u93, u94, u95, u96, u97, u98, u99, u100, u101, u102, u103, u104, u105, u106, u107, u108, u109, u110, u111, u112, u113, u114, u115, u116, u117, u118, u119, u120, u121, u122, u123, u124, u125, u126, u127, u128, u129, u130, u131, u132, u133, u134, u135, u136, u137, u138, u139, u140, u141, u142, u143, u144, u145, u146, u147, u148, u149, u150, u151, u152, u153, u154, u155, u156, u157, u158, u159, u160, u161, u162, u163, u164, u165, u166, u167, u168, u169, u170, u171, u172, u173, u174, u175, u176, u177, u178, u179, u180, u181, u182, u183, u184, u185, u186, u187, u188, u189, u190, u191, u192, u193, u194, u195, u196, u197, u198, u199, u200, u201, u202, u203, u204, u205, u206, u207, u208, u209, u210, u211, u212, u213, u214, u215, u216, u217, u218, u219, u220, u221, u222, u223, u224, u225, u226, u227, u228, u229, u230, u231, u232, u233, u234, u235, u236, u237, u238, u239, u240, u241, u242, u243, u244, u245, u246, u247, u248, u249, u250, u251, u252, u253, u254, u255, u256, u257, u258, u259, u260, u261, u262, u263, u264, u265, u266, u267, u268, u269, u270, u271, u272, u273, u274, u275, u276, u277, u278, u279, u280, u281, u282, u283, u284, u285, u286, u287, u288, u289, u290, u291, u292, u293, u294, u295, u296, u297, u298, u299, u300, u301, u302], defers := [] }) → J a' w')
    (hQ : ∀ (v : _) (a : Act) (d : Option Tmp) (x : Value) (w : World), Q (Exit.panic v) (a.put d x) w → Q (Exit.panic v) a w)
    (hK : ∀ (a' : Act) (w' : World), Met J a' w' → K a' w') :
    Code.wp Tryz.prog codeDu2 (Exit.then K Q) { tmps := #[Value.slice ca cl cc, undef, u2, u1003, Value.pointer (some { block := W0.heap.size, off := 0 }), u1005, u1006, u1007, u1008, u1009, u1010, u1011, u1012, Value.int IntKind.i64 cn, u1014, Value.int IntKind.i64 cn, u1016, Value.slice D1 L.length m1, Value.bool kn, Value.slice D2 L.length m2, Value.bool kn, u21, u22, u23, u24, u25, u26, u27, Value.pointer (some { block := W2.heap.size, off := 0 }), Value.pointer (some { block := XE.heap.size, off := 0 }), Value.bool ok, Value.pointer (some { block := XW.heap.size, off := 0 }), Value.bool ok, undef, undef, undef, undef, undef, undef, undef, undef, undef, undef, u43, u44, u45, u46, u47, u48, u49, u50, u51, u52, u53, u54, u55, u56, u57, u58, u59, u60, u61, u62, u63, u64, u65, u66, u67, u68, u69, u70, u71, u72, u73, u74, u75, u76, u77, u78, u79, u80, u81, u82, u83, u84, u85, u86, u87, u88, u89, u90, u91, u92, u93, u94, u95, u96, u97, u98, u99, u100, u101, u102, u103, u104, u105, u106, u107, u108, u109, u110, u111, u112, u113, u114, u115, u116, u117, u118, u119, u120, u121, u122, u123, u124, u125, u126, u127, u128, u129, u130, u131, u132, u133, u134, u135, u136, u137, u138, u139, u140, u141, u142, u143, u144, u145, u146, u147, u148, u149, u150, u151, u152, u153, u154, u155, u156, u157, u158, u159, u160, u161, u162, u163, u164, u165, u166, u167, u168, u169, u170, u171, u172, u173, u174, u175, u176, u177, u178, u179, u180, u181, u182, u183, u184, u185, u186, u187, u188, u189, u190, u191, u192, u193, u194, u195, u196, u197, u198, u199, u200, u201, u202, u203, u204, u205, u206, u207, u208, u209, u210, u211, u212, u213, u214, u215, u216, u217, u218, u219, u220, u221, u222, u223, u224, u225, u226, u227, u228, u229, u230, u231, u232, u233, Value.slice ca cl cc, Value.agg #[Value.int IntKind.i64 vars, Value.slice B xss.length cap], Value.tuple #[dgV rr (Value.slice A1 nn.length k1), Value.bool ok], Value.agg #[Value.int IntKind.i64 vars, Value.slice B xss.length cap], Value.tuple #[dgV rr (Value.slice A1 nn.length k1), Value.bool ok], dgV rr (Value.slice A1 nn.length k1), Value.bool ok, Value.tuple #[dgV rr (Value.slice A2 nn.length k2), Value.bool ok], Value.agg #[Value.int IntKind.i64 vars, Value.slice B xss.length cap], Value.tuple #[dgV rr (Value.slice A2 nn.length k2), Value.bool ok], dgV rr (Value.slice A2 nn.length k2), Value.bool ok, Value.bool ok, Value.bool ok, Value.bool false, Value.bool false, Value.agg #[Value.int IntKind.i64 rr, Value.slice A1 nn.length k1], Value.agg #[Value.int IntKind.i64 rr, Value.slice A2 nn.length k2], Value.bool true, Value.bool false, Value.bool false, Value.bool ok, u256, u257, u258, u259, u260, u261, u262, u263, u264, u265, u266, u267, u268, u269, u270, u271, u272, u273, u274, u275, u276, u277, u278, u279, u280, u281, u282, u283, u284, u285, u286, u287, u288, u289, u290, u291, u292, u293, u294, u295, u296, u297, u298, u299, u300, u301, u302], defers := [] } wn := by
  dsimp only at hJ ⊢
  conv => arg 2; whnf
  cases ok
  · have hB := Lib.hid S1.out.below
    clear hok hrr hnn hE hR S1
    go_wp2_with fail
    go_meet
    exact hB
  have hd := hok.out
  unfold dCnf at hd
  rw [Bool.and_eq_true, inB_def] at hd
  obtain ⟨⟨hv2, hv3⟩, hg⟩ := hd
  obtain ⟨n, rfl⟩ := Int.eq_ofNat_of_zero_le hv2
  have hn : n ≤ 6 := by omega
  have e1 : dgR n (modT xss) = rr := hrr.out
  have e2 : dgN n (modT xss) = nn := hnn.out
  have hgE : goodD n rr nn = true := by rw [← e1, ← e2]; exact dg_good _ hn
  have hnnl : nn.length ≤ 63 := by rw [← e2]; exact dg_len _ hn
  have hcnt := fun W (h : NdAt W A1 nn) => cnt_yes (n := n) rr A1 k1 nn W h (by omega) hgE
  have hmod := fun W F (h : (Ty.slice Ty.int).row false W (.slice B xss.length cap) xss F) => countCnfModels_any n _ xss F W h hg
  rw [Int.toNat_natCast] at hmod
  have e4 : cntP (modT xss) (2 ^ n) = cntB n (valD rr nn) := by rw [← e1, ← e2, cnt_own, cntB, cntP, List.countP_eq_length_filter]
  simp only [e4] at hmod
  generalize cntB n (valD rr nn) = z at hcnt hmod
  replace hcnt := Lib.hid hcnt
  replace hmod := Lib.hid hmod
  clear hok hrr hnn hg e1 e2 hgE e4 hv2 hv3
  have c0 := S1.out.cell (i := 2) rfl (o := 0) rfl
  have c1 := S1.out.cell (i := 2) rfl (o := 1) rfl
  have d0 := S1.out.cell (i := 1) rfl (o := 0) rfl
  have d1 := S1.out.cell (i := 1) rfl (o := 1) rfl
  go_wp2_with fail
  refine (hcnt.out _ hE.out).mono ?_
  rintro e w2 ⟨rfl, hb⟩
  replace S1 := Lib.hid (S1.out.grow hb)
  replace hR := Lib.hid (Ty.row_grow hR.out hb)
  clear hb hcnt c0 c1 d0 d1 hE
  have c0 := S1.out.cell (i := 2) rfl (o := 0) rfl
  have c1 := S1.out.cell (i := 2) rfl (o := 1) rfl
  go_wp2_with fail
  refine (hmod.out _ _ hR.out).mono ?_
  rintro e w3 ⟨rfl, hb⟩
  have hB := Lib.hid (S1.out.grow hb).below
  clear hb hmod c0 c1 hR S1
  go_wp2_with fail
  go_meet
  exact hB
end Go.Proofs.YtbemodacpimiiaaGreat
