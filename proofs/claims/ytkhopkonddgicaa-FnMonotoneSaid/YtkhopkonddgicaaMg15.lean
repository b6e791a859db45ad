/- Lemmas and contracts for a law, put together out of several texts: MoA. -/
import Derived.Test.YtkhopkonddgicaaMg14
import Derived.Test.YtkhopkonddgicaaMg9
import Derived.Deep.DeepCutAuto
/- A part of the walk of FnMonotone. Printed by gen_mono2.py. -/
namespace Go.Proofs.Ytkhopkonddgicaa
open Go.RowKit

/-- The 'if' that tests a slot. -/
def findIf (k : Nat) : Code → Option Code
  | .cond (.tmp t) a b => if t = k then some (.cond (.tmp t) a b) else match findIf k a with
    | some c => some c
    | none => findIf k b
  | .cond _ a b => match findIf k a with
    | some c => some c
    | none => findIf k b
  | .seq a b => match findIf k a with
    | some c => some c
    | none => findIf k b
  | .loop c => findIf k c
  | .block _ c => findIf k c
  | .scope c => findIf k c
  | _ => none

noncomputable def codeMo1 : Code := ((Try.f5.body.bind (findIf 76)).getD .skip)
set_option maxRecDepth 1000000 in
set_option maxHeartbeats 16000000 in
theorem FnMonotone_p1 (ca : Option Addr) (cl cc : Nat) (w1 wc : World) (vars : Int) (A0 : Option Addr) (d0 : Nat) (gs : List Gt) (ok im z : Bool) (hv0 : -1 ≤ vars) (hv1 : vars ≤ 13) (hgl : gs.length ≤ 300) (hok : Hid (circB vars gs = ok)) (him : Hid ((ok && monoB gs) = im)) (hz : Hid (z = (ok && im))) (hB : Hid (Below w1.heap.size w1 wc)) (hG : Hid (GtAt wc A0 gs)) {u46 u47 u48 u49 u50 u51 u52 u53 u54 u55 u56 u57 u58 u59 u60 u61 u62 u63 u64 u65 u66 u67 u68 u69 u70 u71 u72 u73 u74 u75 u77 u78 u79 u80 u81 u82 u83 u84 u85 u86 u87 u88 u89 u90 u91 u92 u93 u94 u95 u96 u97 u98 u99 u100 u101 u102 u103 u104 u105 u106 u107 u108 u109 u110 u111 u112 u113 u114 u115 u116 u117 u118 u119 u120 u121 u122 u123 u124 u125 u126 u127 u128 u129 u130 u131 u132 u133 u134 u135 u136 u137 u138 u139 u140 u141 u142 u143 u144 u145 u146 u147 u148 u149 u150 u151 u152 u153 u154 u155 u156 u157 u158 u159 u160 u161 u162 u163 u164 u165 u166 u167 u168 u169 u170 u171 u172 u173 u174 u175 u176 u177 u178 u179 u180 u181 u182 u183 u184 u185 u186 u187 u188 u189 u190 u191 u192 u193 u194 u195 u196 u197 u198 u199 u200 u201 u202 u203 u204 u205 u206 u207 u208 u209 u210 u211 u212 u213 u214 u215 u216 u217 u218 u219 u220 u221 u222 u223 u224 u225 u226 u227 u228 u229 u230 u231 u232 u233 u234 u235 u236 u237 u238 u239 u240 u241 u242 u243 u244 u245 u246 u247 u248 u249 u250 u251 u252 u253 u254 u255 u256 u257 u258 u259 u260 u261 u262 u263 u264 u265 u266 u267 u268 u269 u270 u271 u272 u273 u274 u275 u276 u277 u278 u279 u280 u281 u282 u283 u284 u285 u286 u287 u288 u289 u290 u291 u292 u293 u294 u295 u296 u297 u298 u299 u300 u301 u302 u303 u304 u305 u306 u307 u308 u309 u310 u311 : Value} {J K : Act → World → Prop} {Q : Exit → Act → World → Prop}
    (hJ : ∀ (a' : Act) (w' : World), (∃ u2 u9 u10 u11 u12 u13 u14 u46 u47 u48 u49 u50 u51 u52 u53 u54 u55 u56 u57 u58 u59 u60 u61 u62 u63 u64 u65 u66 u67 u68 u69 u70 u71 u72 u73 u74 u75 u76 u77 u78 u79 u80 u81 u82 u83 u84 u85 u86 u87 u88 u89 u90 u91 u92 u93 u94 u95 u96 u97 u98 u99 u100 u101 u102 u103 u104 u105 u106 u107 u108 u109 u110 u111 u112 u113 u114 u115 u116 u117 u118 u119 u120 u121 u122 u123 u124 u125 u126 u127 u128 u129 u130 u131 u132 u133 u134 u135 u136 u137 u138 u139 u140 u141 u142 u143 u144 u145 u146 u147 u148 u149 u150 u151 u152 u153 u154 u155 u156 u157 u158 u159 u160 u161 u162 u163 u164 u165 u166 u167 u168 u169 u170 u171 u172 u173 u174 u175 u176 u177 u178 u179 u180 u181 u182 u183 u184 u185 u186 u187 u188 u189 u190 u191 u192 u193 u194 u195 u196 u197 u198 u199 u200 u201 u202 u203 u204 u205 u206 u207 u208 u209 u210 u211 u212 u213 u214 u215 u216 u217 u218 u219 u220 u221 u222 u223 u224 u225 u226 u227 u228 u229 u230 u231 u232 u233 u234 u235 u236 u237 u238 u239 u240 u241 u242 u243 u244 u245 u246 u247 u248 u249 u250 u251 u252 u253 u254 u255 u256 u257 u258 u259 u260 u261 u262 u263 u264 u265 u266 u267 u268 u269 u270 u271 u272 u273 u274 u275 u276 u277 u278 u279 u280 u281 u282 u283 u284 u285 u286 u287 u288 u289 u290 u291 u292 u293 u294 u295 u296 u297 u298 u299 u300 u301 u302 u303 u304 u305 u306 u307 u308 u309 u310 u311 : Value,  Hid (Below w1.heap.size w1 w')  ∧ a' = { tmps := #[Value.slice ca cl cc, undef, u2, Value.int IntKind.i64 vars, Value.slice A0 gs.length d0, Value.bool im, Value.bool ok, Value.bool im, Value.bool ok, u9, u10, u11, u12, u13, u14, undef, undef, undef, undef, undef, undef, undef, undef, undef, undef, undef, undef, undef, undef, undef, undef, undef, undef, undef, undef, undef, undef, undef, undef, undef, undef, undef, undef, undef, undef, undef, u46, u47, u48, u49, u50, u51, u52, u53, u54, u55, u56, u57, u58, u59, u60, u61, u62, u63, u64, u65, u66, u67, u68, u69, u70, u71, u72, u73, u74, u75, u76, u77, u78, u79, u80, u81, u82, u83, u84, u85, u86, u87, u88, u89, u90, u91, u92, u93, u94, u95, u96, u97, u98, u99, u100, u101, u102, u103, u104, u105, u106, u107, u108, u109, u110, u111, u112, u113, u114, u115, u116, u117, u118, u119, u120, u121, u122, u123, u124, u125, u126, u127, u128, u129, u130, u131, u132, u133, u134, u135, u136, u137, u138, u139, u140, u141, u142, u143, u144, u145, u146, u147, u148, u149, u150, u151, u152, u153, u154, u155, u156, u157, u158, u159, u160, u161, u162, u163, u164, u165, u166, u167, u168, u169, u170, u171, u172, u173, u174, u175, u176, u177, u178, u179, u180, u181, u182, u183, u184, u185, u186, u187, u188, u189, u190, u191, u192, u193, u194, u195, u196, u197, u198, u199, u200, u201, u202, u203, u204, u205, u206, u207, u208, u209, u210, u211, u212, u213, u214, u215, u216, u217, u218, u219, u220, u221, u222, u223, u224, u225, u226, u227, u228, u229, u230, u231, u232, u233, u234, u235, u236, u237, u238, u239, u240, u241, u242, u243, u244, u245, u246, u247, u248, u249, u250, u251, u252, u253, u254, u255, u256, u257, u258, u259, u260, u261, u262, u263, u264, u265, u266, u267, u268, u269, u270, u271, u272, u273, u274, u275, u276, u277, u278, u279, u280, u281, u282, u283, u284, u285, u286, u287, u288, u289, u290, u291, u292, u293, u294, u295, u296, u297, u298, u299, u300, u301, u302, u303, u304, u305, u306, u307, u308, u309, u310, u311], defers := [] }) → J a' w')
    (hK : ∀ (a' : Act) (w' : World), Met J a' w' → K a' w') :
    Code.wp Try.prog codeMo1 (Exit.then K Q) { tmps := #[Value.slice ca cl cc, undef, Value.bool false, Value.int IntKind.i64 vars, Value.slice A0 gs.length d0, Value.bool im, Value.bool ok, Value.bool im, Value.bool ok, undef, undef, undef, undef, undef, undef, undef, undef, undef, undef, undef, undef, undef, undef, undef, undef, undef, undef, undef, undef, undef, undef, undef, undef, undef, undef, undef, undef, undef, undef, undef, undef, undef, undef, undef, undef, undef, u46, u47, u48, u49, u50, u51, u52, u53, u54, u55, u56, u57, u58, u59, u60, u61, u62, u63, u64, u65, u66, u67, u68, u69, u70, u71, u72, u73, u74, u75, Value.bool z, u77, u78, u79, u80, u81, u82, u83, u84, u85, u86, u87, u88, u89, u90, u91, u92, u93, u94, u95, u96, u97, u98, u99, u100, u101, u102, u103, u104, u105, u106, u107, u108, u109, u110, u111, u112, u113, u114, u115, u116, u117, u118, u119, u120, u121, u122, u123, u124, u125, u126, u127, u128, u129, u130, u131, u132, u133, u134, u135, u136, u137, u138, u139, u140, u141, u142, u143, u144, u145, u146, u147, u148, u149, u150, u151, u152, u153, u154, u155, u156, u157, u158, u159, u160, u161, u162, u163, u164, u165, u166, u167, u168, u169, u170, u171, u172, u173, u174, u175, u176, u177, u178, u179, u180, u181, u182, u183, u184, u185, u186, u187, u188, u189, u190, u191, u192, u193, u194, u195, u196, u197, u198, u199, u200, u201, u202, u203, u204, u205, u206, u207, u208, u209, u210, u211, u212, u213, u214, u215, u216, u217, u218, u219, u220, u221, u222, u223, u224, u225, u226, u227, u228, u229, u230, u231, u232, u233, u234, u235, u236, u237, u238, u239, u240, u241, u242, u243, u244, u245, u246, u247, u248, u249, u250, u251, u252, u253, u254, u255, u256, u257, u258, u259, u260, u261, u262, u263, u264, u265, u266, u267, u268, u269, u270, u271, u272, u273, u274, u275, u276, u277, u278, u279, u280, u281, u282, u283, u284, u285, u286, u287, u288, u289, u290, u291, u292, u293, u294, u295, u296, u297, u298, u299, u300, u301, u302, u303, u304, u305, u306, u307, u308, u309, u310, u311], defers := [] } wc := by
  dsimp only at hJ ⊢
  conv => arg 2; whnf
  have e0 : True := trivial
  have e1 : True := trivial
  cases z
  · clear hok him hG e0 e1 hz
    go_wp2_with fail
    go_meet
    exact hB
  · skip
    have hi := hz.out.symm
    clear hz
    rw [Bool.and_eq_true] at hi
    obtain ⟨rfl, rfl⟩ := hi
    rw [Bool.true_and] at him
    replace hok : circB vars gs = true := hok.out
    replace him : monoB gs = true := him.out
    obtain ⟨hv2, hv3, hpos, hlen, -⟩ := circ_vars hok
    obtain ⟨n, rfl⟩ : ∃ n : Nat, vars = n := ⟨vars.toNat, by omega⟩
    have hn : n ≤ 12 := by omega
    obtain ⟨hsh, hpp⟩ := pow12 hn
    have cv := fun b (hb : b < 2 ^ n) W A c (h : GtAt W A gs) => circuitValueM_any n b A c gs W hok h hb
    have hmo := fun b c (h : ∀ x : Int, 1 ≤ x → x ≤ n → bitG b x = true → bitG c x = true) (hv : cval gs b = true) => mono_cval hok him h hv
    have hor := fun u b (hu : u < n) (hb : b < 2 ^ n) => or_set hu hn hb
    have hN1 : 1 ≤ 2 ^ n := Nat.one_le_two_pow
    obtain ⟨N, hN⟩ : ∃ N, 2 ^ n = N := ⟨_, rfl⟩
    rw [hN] at hsh hpp hN1
    simp only [hN] at cv hor
    replace cv := Lib.hid cv
    replace hor := Lib.hid hor
    replace hmo := Lib.hid hmo
    clear hN hok him hv0 hv1 hv2 hv3 e0 e1
    go_wp2_with fail
    try rw [hsh]
    go_loopw [9] (fun i wo => ∃ j : Nat, j ≤ 64 ∧ j ≤ N ∧ i = .int .i64 (j : Int) ∧ Hid (Below w1.heap.size w1 wo) ∧ Hid (GtAt wo A0 gs)) (fun i _ => 64 - (intOf i).toNat)
    case atStart => exact ⟨0, by omega, by omega, rfl, hB, hG⟩
    case round =>
      rename World => wx
      clear hB hG
      obtain ⟨j, hj, hjN, rfl, hB, hG⟩ := hrel
      by_cases hboth : j < N ∧ j < 64
      · obtain ⟨hjn, hj64⟩ := hboth
        have hji : (j : Int) < N := by omega
        have hj2 : (j : Int) < 64 := by omega
        have hcv := fun W A c h => cv.out j hjn W A c h
        replace hcv := Lib.hid hcv
        go_wp2_with fail
        (try rw [hsh])
        go_loopw [10] (fun i wo => ∃ u : Nat, u ≤ n ∧ i = .int .i64 (u : Int) ∧ Hid (Below w1.heap.size w1 wo) ∧ Hid (GtAt wo A0 gs)) (fun i _ => n - (intOf i).toNat)
        case atStart => exact ⟨0, by omega, rfl, hB, hG⟩
        case round =>
          rename World => wy
          clear hB hG
          obtain ⟨u, hu, rfl, hB, hG⟩ := hrel
          by_cases hlt : u < n
          · have hui : (u : Int) < n := by omega
            obtain ⟨c, hcN, hcc, hct⟩ := hor.out u j hlt hjn
            obtain ⟨hsu, hpu⟩ := pow12 (v := u) (by omega)
            have hcv2 := fun W A d h => cv.out c hcN W A d h
            have hxy := hmo.out j c (mono_bits hct)
            obtain ⟨U, hU⟩ : ∃ U, 2 ^ u = U := ⟨_, rfl⟩
            rw [hU] at hsu hpu hcc
            have hcv1 := hcv.out
            generalize cval gs j = x at hcv1 hxy
            generalize cval gs c = y at hcv2 hxy
            replace hcv1 := Lib.hid hcv1
            replace hcv2 := Lib.hid hcv2
            replace hxy := Lib.hid hxy
            replace hcc := Lib.hid hcc
            clear hU hct
            go_wp2_with fail
            refine (hcv1.out _ _ _ hG.out).mono ?_
            rintro e wn ⟨rfl, hb⟩
            replace hB := Lib.hid (btr hB.out hb)
            replace hG := Lib.hid (hG.out.grow hb)
            clear hb
            go_wp2_with fail
            (try rw [hsu])
            rw [hcc.out]
            refine (hcv2.out _ _ _ hG.out).mono ?_
            rintro e wn ⟨rfl, hb⟩
            replace hB := Lib.hid (btr hB.out hb)
            replace hG := Lib.hid (hG.out.grow hb)
            clear hb
            clear hcv1 hcv2 hcc
            cases x
            · clear hxy
              go_wp2_with fail
              go_roundw
              case rel => exact ⟨u + 1, by omega, by first | rfl | simp, hB, hG⟩
              case measure => simp [intOf]; omega
            · obtain rfl := hxy.out rfl
              go_wp2_with fail
              go_roundw
              case rel => exact ⟨u + 1, by omega, by first | rfl | simp, hB, hG⟩
              case measure => simp [intOf]; omega
          · obtain rfl : u = n := by omega
            go_wp2_with fail
            go_roundw
            case rel => exact ⟨j + 1, by omega, by omega, by first | rfl | simp, hB, hG⟩
            case measure => simp [intOf]; omega
      · by_cases hjn : j < N
        · have hji : (j : Int) < N := by omega
          have hj2 : ¬ (j : Int) < 64 := by omega
          clear cv hor hmo hG
          go_wp2_with fail
          go_meet
          exact hB
        · have hji : ¬ (j : Int) < N := by omega
          clear cv hor hmo hG
          go_wp2_with fail
          go_meet
          exact hB
end Go.Proofs.Ytkhopkonddgicaa
