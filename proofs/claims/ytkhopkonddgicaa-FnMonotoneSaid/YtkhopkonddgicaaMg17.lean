/- Lemmas and contracts for a law, put together out of several texts: MoC. -/
import Derived.Test.YtkhopkonddgicaaMg15
/- A part of the walk of FnMonotone. Printed by gen_mono2.py. -/
namespace Go.Proofs.Ytkhopkonddgicaa
open Go.RowKit

noncomputable def codeMo3 : Code := ((Try.f5.body.bind (findIf 246)).getD .skip)
set_option maxRecDepth 1000000 in
set_option maxHeartbeats 16000000 in
theorem FnMonotone_p3 (ca : Option Addr) (cl cc : Nat) (w1 wn : World) (im val ok : Bool) (v vars kind : Int) (A0 A1 A2 A3 : Option Addr) (d0 d1 d2 d3 : Nat) (gs ys L : List Gt) (hv0 : -1 ≤ vars) (hv1 : vars ≤ 13) (hgl : gs.length ≤ 300) (hyl : ys.length ≤ 300) (hLl : L.length ≤ 1000) (hjo : Hid (ok = true → circB vars gs = true ∧ circB vars ys = true ∧ (kind = 5 ∨ kind = 6) ∧ gs.length + ys.length < 200)) (hL : Hid ((if ok then joinG kind gs ys else []) = L)) (hB : Hid (Below w1.heap.size w1 wn)) (hG : Hid (GtAt wn A0 gs)) (hY : Hid (GtAt wn A3 ys)) (hp : Hid (GtAt wn A1 L)) {u2 u9 u10 u11 u12 u13 u14 u23 u24 u25 u26 u27 u28 u29 u30 u46 u47 u48 u49 u50 u51 u52 u53 u54 u55 u56 u57 u58 u59 u60 u61 u62 u63 u64 u65 u66 u67 u68 u69 u70 u71 u72 u73 u74 u75 u76 u77 u78 u79 u80 u81 u82 u83 u84 u85 u86 u87 u88 u89 u90 u91 u92 u93 u94 u95 u96 u97 u98 u99 u100 u101 u102 u103 u104 u105 u106 u107 u108 u109 u110 u111 u112 u113 u114 u115 u116 u117 u118 u119 u120 u121 u122 u123 u124 u125 u126 u127 u128 u129 u130 u131 u132 u133 u134 u135 u136 u137 u138 u139 u140 u141 u142 u143 u144 u145 u146 u147 u148 u149 u150 u151 u152 u153 u154 u155 u156 u157 u158 u159 u160 u161 u162 u163 u164 u165 u166 u167 u168 u169 u170 u171 u172 u173 u174 u175 u176 u177 u178 u179 u180 u181 u182 u183 u184 u185 u186 u187 u188 u189 u190 u191 u192 u193 u194 u195 u196 u197 u198 u199 u200 u201 u202 u203 u204 u205 u206 u207 u208 u209 u210 u211 u212 u213 u247 u248 u249 u250 u251 u252 u253 u254 u255 u256 u257 u258 u259 u260 u261 u262 u263 u264 u265 u266 u267 u268 u269 u270 u271 u272 u273 u274 u275 u276 u277 u278 u279 u280 u281 u282 u283 u284 u285 u286 u287 u288 u289 u290 u291 u292 u293 u294 u295 u296 u297 u298 u299 u300 u301 u302 u303 u304 u305 u306 u307 u308 u309 u310 u311 u1003 u1004 u1006 u1008 u1015 u1016 u1019 u1020 u1021 u1022 : Value} {J K : Act → World → Prop} {Q : Exit → Act → World → Prop}
    (hJ : ∀ (a' : Act) (w' : World), (∃ u2 u39 u40 u41 u42 u43 u44 u45 u46 u47 u48 u49 u50 u51 u52 u53 u54 u55 u56 u57 u58 u59 u60 u61 u62 u63 u64 u65 u66 u67 u68 u69 u70 u71 u72 u73 u74 u75 u76 u77 u78 u79 u80 u81 u82 u83 u84 u85 u86 u87 u88 u89 u90 u91 u92 u93 u94 u95 u96 u97 u98 u99 u100 u101 u102 u103 u104 u105 u106 u107 u108 u109 u110 u111 u112 u113 u114 u115 u116 u117 u118 u119 u120 u121 u122 u123 u124 u125 u126 u127 u128 u129 u130 u131 u132 u133 u134 u135 u136 u137 u138 u139 u140 u141 u142 u143 u144 u145 u146 u147 u148 u149 u150 u151 u152 u153 u154 u155 u156 u157 u158 u159 u160 u161 u162 u163 u164 u165 u166 u167 u168 u169 u170 u171 u172 u173 u174 u175 u176 u177 u178 u179 u180 u181 u182 u183 u184 u185 u186 u187 u188 u189 u190 u191 u192 u193 u194 u195 u196 u197 u198 u199 u200 u201 u202 u203 u204 u205 u206 u207 u208 u209 u210 u211 u212 u213 u214 u215 u216 u217 u218 u219 u220 u221 u222 u223 u224 u225 u226 u227 u228 u229 u230 u231 u232 u233 u234 u235 u236 u237 u238 u239 u240 u241 u242 u243 u244 u245 u246 u247 u248 u249 u250 u251 u252 u253 u254 u255 u256 u257 u258 u259 u260 u261 u262 u263 u264 u265 u266 u267 u268 u269 u270 u271 u272 u273 u274 u275 u276 u277 u278 u279 u280 u281 u282 u283 u284 u285 u286 u287 u288 u289 u290 u291 u292 u293 u294 u295 u296 u297 u298 u299 u300 u301 u302 u303 u304 u305 u306 u307 u308 u309 u310 u311 : Value,  Hid (Below w1.heap.size w1 w')  ∧ a' = { tmps := #[Value.slice ca cl cc, undef, u2, u1003, u1004, Value.bool im, u1006, Value.bool im, u1008, u9, u10, u11, u12, u13, u14, u1015, u1016, Value.int IntKind.i64 v, Value.bool val, u1019, u1020, u1021, u1022, u23, u24, u25, u26, u27, u28, u29, u30, Value.int IntKind.i64 vars, Value.int IntKind.i64 kind, Value.slice A0 gs.length d0, Value.slice A3 ys.length d3, Value.slice A1 L.length d1, Value.bool ok, Value.slice A2 L.length d2, Value.bool ok, u39, u40, u41, u42, u43, u44, u45, u46, u47, u48, u49, u50, u51, u52, u53, u54, u55, u56, u57, u58, u59, u60, u61, u62, u63, u64, u65, u66, u67, u68, u69, u70, u71, u72, u73, u74, u75, u76, u77, u78, u79, u80, u81, u82, u83, u84, u85, u86, u87, u88, u89, u90, u91, u92, u93, u94, u95, u96, u97, u98, u99, u100, u101, u102, u103, u104, u105, u106, u107, u108, u109, u110, u111, u112, u113, u114, u115, u116, u117, u118, u119, u120, u121, u122, u123, u124, u125, u126, u127, u128, u129, u130, u131, u132, u133, u134, u135, u136, u137, u138, u139, u140, u141, u142, u143, u144, u145, u146, u147, u148, u149, u150, u151, u152, u153, u154, u155, u156, u157, u158, u159, u160, u161, u162, u163, u164, u165, u166, u167, u168, u169, u170, u171, u172, u173, u174, u175, u176, u177, u178, u179, u180, u181, u182, u183, u184, u185, u186, u187, u188, u189, u190, u191, u192, u193, u194, u195, u196, u197, u198, u199, u200, u201, u202, u203, u204, u205, u206, u207, u208, u209, u210, u211, u212, u213, u214, u215, u216, u217, u218, u219, u220, u221, u222, u223, u224, u225, u226, u227, u228, u229, u230, u231, u232, u233, u234, u235, u236, u237, u238, u239, u240, u241, u242, u243, u244, u245, u246, u247, u248, u249, u250, u251, u252, u253, u254, u255, u256, u257, u258, u259, u260, u261, u262, u263, u264, u265, u266, u267, u268, u269, u270, u271, u272, u273, u274, u275, u276, u277, u278, u279, u280, u281, u282, u283, u284, u285, u286, u287, u288, u289, u290, u291, u292, u293, u294, u295, u296, u297, u298, u299, u300, u301, u302, u303, u304, u305, u306, u307, u308, u309, u310, u311], defers := [] }) → J a' w')
    (hK : ∀ (a' : Act) (w' : World), Met J a' w' → K a' w') :
    Code.wp Try.prog codeMo3 (Exit.then K Q) { tmps := #[Value.slice ca cl cc, undef, u2, u1003, u1004, Value.bool im, u1006, Value.bool im, u1008, u9, u10, u11, u12, u13, u14, u1015, u1016, Value.int IntKind.i64 v, Value.bool val, u1019, u1020, u1021, u1022, u23, u24, u25, u26, u27, u28, u29, u30, Value.int IntKind.i64 vars, Value.int IntKind.i64 kind, Value.slice A0 gs.length d0, Value.slice A3 ys.length d3, Value.slice A1 L.length d1, Value.bool ok, Value.slice A2 L.length d2, Value.bool ok, undef, undef, undef, undef, undef, undef, undef, u46, u47, u48, u49, u50, u51, u52, u53, u54, u55, u56, u57, u58, u59, u60, u61, u62, u63, u64, u65, u66, u67, u68, u69, u70, u71, u72, u73, u74, u75, u76, u77, u78, u79, u80, u81, u82, u83, u84, u85, u86, u87, u88, u89, u90, u91, u92, u93, u94, u95, u96, u97, u98, u99, u100, u101, u102, u103, u104, u105, u106, u107, u108, u109, u110, u111, u112, u113, u114, u115, u116, u117, u118, u119, u120, u121, u122, u123, u124, u125, u126, u127, u128, u129, u130, u131, u132, u133, u134, u135, u136, u137, u138, u139, u140, u141, u142, u143, u144, u145, u146, u147, u148, u149, u150, u151, u152, u153, u154, u155, u156, u157, u158, u159, u160, u161, u162, u163, u164, u165, u166, u167, u168, u169, u170, u171, u172, u173, u174, u175, u176, u177, u178, u179, u180, u181, u182, u183, u184, u185, u186, u187, u188, u189, u190, u191, u192, u193, u194, u195, u196, u197, u198, u199, u200, u201, u202, u203, u204, u205, u206, u207, u208, u209, u210, u211, u212, u213, Value.tuple #[Value.int IntKind.i64 vars, Value.int IntKind.i64 kind, Value.slice A0 gs.length d0, Value.slice A3 ys.length d3], Value.slice ca cl cc, Value.tuple #[Value.int IntKind.i64 vars, Value.int IntKind.i64 kind, Value.slice A0 gs.length d0, Value.slice A3 ys.length d3], Value.int IntKind.i64 vars, Value.int IntKind.i64 kind, Value.slice A0 gs.length d0, Value.slice A3 ys.length d3, Value.tuple #[Value.slice A1 L.length d1, Value.bool ok], Value.int IntKind.i64 vars, Value.int IntKind.i64 kind, Value.slice A0 gs.length d0, Value.slice A3 ys.length d3, Value.tuple #[Value.slice A1 L.length d1, Value.bool ok], Value.slice A1 L.length d1, Value.bool ok, Value.tuple #[Value.slice A2 L.length d2, Value.bool ok], Value.int IntKind.i64 vars, Value.int IntKind.i64 kind, Value.slice A0 gs.length d0, Value.slice A3 ys.length d3, Value.tuple #[Value.slice A2 L.length d2, Value.bool ok], Value.slice A2 L.length d2, Value.bool ok, Value.bool ok, Value.bool ok, Value.bool false, Value.bool false, Value.slice A1 L.length d1, Value.slice A2 L.length d2, Value.bool true, Value.bool false, Value.bool false, Value.bool ok, u247, u248, u249, u250, u251, u252, u253, u254, u255, u256, u257, u258, u259, u260, u261, u262, u263, u264, u265, u266, u267, u268, u269, u270, u271, u272, u273, u274, u275, u276, u277, u278, u279, u280, u281, u282, u283, u284, u285, u286, u287, u288, u289, u290, u291, u292, u293, u294, u295, u296, u297, u298, u299, u300, u301, u302, u303, u304, u305, u306, u307, u308, u309, u310, u311], defers := [] } wn := by
  dsimp only at hJ ⊢
  conv => arg 2; whnf
  have e0 : True := trivial
  have e1 : True := trivial
  cases ok
  · clear hjo hL hG hY hp e1
    go_wp2_with fail
    go_meet
    exact hB
  · skip
    obtain ⟨hq, hq2, hkk, hll⟩ := hjo.out rfl
    have hL2 : joinG kind gs ys = L := hL.out
    have hqL : circB vars L = true := by rw [← hL2]; exact join_circ hq hq2 hkk hll
    obtain ⟨hv2, hv3, -, -, -⟩ := circ_vars hq
    obtain ⟨n, rfl⟩ : ∃ n : Nat, vars = n := ⟨vars.toNat, by omega⟩
    have hn : n ≤ 12 := by omega
    obtain ⟨hsh, hpp⟩ := pow12 hn
    have hval := fun b => join_cval hq hq2 hkk b
    rw [hL2] at hval
    have cv := fun b (hb : b < 2 ^ n) W A c (h : GtAt W A L) => circuitValueM_any n b A c L W hqL h hb
    have cg := fun b (hb : b < 2 ^ n) W A c (h : GtAt W A gs) => circuitValueM_any n b A c gs W hq h hb
    have cy := fun b (hb : b < 2 ^ n) W A c (h : GtAt W A ys) => circuitValueM_any n b A c ys W hq2 h hb
    have hN1 : 1 ≤ 2 ^ n := Nat.one_le_two_pow
    obtain ⟨N, hN⟩ : ∃ N, 2 ^ n = N := ⟨_, rfl⟩
    rw [hN] at hsh hpp hN1
    simp only [hN] at cv cg cy
    replace cv := Lib.hid cv
    replace cg := Lib.hid cg
    replace cy := Lib.hid cy
    replace hval := Lib.hid hval
    clear hN hqL hL hL2 hjo hq hq2 hv0 hv1 hv2 hv3 e1
    rcases hkk with rfl | rfl
    · go_wp2_with fail
      try rw [hsh]
      go_loopw [39] (fun i wo => ∃ j : Nat, j ≤ 64 ∧ j ≤ N ∧ i = .int .i64 (j : Int) ∧ Hid (Below w1.heap.size w1 wo) ∧ Hid (GtAt wo A0 gs) ∧ Hid (GtAt wo A3 ys) ∧ Hid (GtAt wo A1 L)) (fun i _ => 64 - (intOf i).toNat)
      case atStart => exact ⟨0, by omega, by omega, rfl, hB, hG, hY, hp⟩
      case round =>
        rename World => wx
        clear hB hG hp hY
        obtain ⟨j, hj, hjN, rfl, hB, hG, hY, hp⟩ := hrel
        by_cases hboth : j < N ∧ j < 64
        · obtain ⟨hjn, hj64⟩ := hboth
          have hji : (j : Int) < N := by omega
          have hj2 : (j : Int) < 64 := by omega
          have he := hval.out j
          have hcv := fun W A c h => cv.out j hjn W A c h
          have hcg := fun W A c h => cg.out j hjn W A c h
          have hcy := fun W A c h => cy.out j hjn W A c h
          rw [he] at hcv
          generalize cval gs j = x at hcv hcg
          generalize cval ys j = y at hcv hcy
          replace hcv := Lib.hid hcv
          replace hcg := Lib.hid hcg
          replace hcy := Lib.hid hcy
          clear he
          go_wp2_with fail
          refine (hcg.out _ _ _ hG.out).mono ?_
          rintro e wn ⟨rfl, hb⟩
          replace hB := Lib.hid (btr hB.out hb)
          replace hG := Lib.hid (hG.out.grow hb)
          replace hY := Lib.hid (hY.out.grow hb)
          replace hp := Lib.hid (hp.out.grow hb)
          clear hb
          go_wp2_with fail
          refine (hcy.out _ _ _ hY.out).mono ?_
          rintro e wn ⟨rfl, hb⟩
          replace hB := Lib.hid (btr hB.out hb)
          replace hG := Lib.hid (hG.out.grow hb)
          replace hY := Lib.hid (hY.out.grow hb)
          replace hp := Lib.hid (hp.out.grow hb)
          clear hb
          go_wp2_with fail
          refine (hcv.out _ _ _ hp.out).mono ?_
          rintro e wn ⟨rfl, hb⟩
          replace hB := Lib.hid (btr hB.out hb)
          replace hG := Lib.hid (hG.out.grow hb)
          replace hY := Lib.hid (hY.out.grow hb)
          replace hp := Lib.hid (hp.out.grow hb)
          clear hb
          clear hcv hcg hcy
          cases x
          · cases y
            · go_wp2_with fail
              go_roundw
              case rel => exact ⟨j + 1, by omega, by omega, by first | rfl | simp, hB, hG, hY, hp⟩
              case measure => simp [intOf]; omega
            · go_wp2_with fail
              go_roundw
              case rel => exact ⟨j + 1, by omega, by omega, by first | rfl | simp, hB, hG, hY, hp⟩
              case measure => simp [intOf]; omega
          · cases y
            · go_wp2_with fail
              go_roundw
              case rel => exact ⟨j + 1, by omega, by omega, by first | rfl | simp, hB, hG, hY, hp⟩
              case measure => simp [intOf]; omega
            · go_wp2_with fail
              go_roundw
              case rel => exact ⟨j + 1, by omega, by omega, by first | rfl | simp, hB, hG, hY, hp⟩
              case measure => simp [intOf]; omega
        · by_cases hjn : j < N
          · have hji : (j : Int) < N := by omega
            have hj2 : ¬ (j : Int) < 64 := by omega
            clear cv cg cy hval hG hp hY
            go_wp2_with fail
            go_meet
            exact hB
          · have hji : ¬ (j : Int) < N := by omega
            clear cv cg cy hval hG hp hY
            go_wp2_with fail
            go_meet
            exact hB
    · go_wp2_with fail
      try rw [hsh]
      go_loopw [39] (fun i wo => ∃ j : Nat, j ≤ 64 ∧ j ≤ N ∧ i = .int .i64 (j : Int) ∧ Hid (Below w1.heap.size w1 wo) ∧ Hid (GtAt wo A0 gs) ∧ Hid (GtAt wo A3 ys) ∧ Hid (GtAt wo A1 L)) (fun i _ => 64 - (intOf i).toNat)
      case atStart => exact ⟨0, by omega, by omega, rfl, hB, hG, hY, hp⟩
      case round =>
        rename World => wx
        clear hB hG hp hY
        obtain ⟨j, hj, hjN, rfl, hB, hG, hY, hp⟩ := hrel
        by_cases hboth : j < N ∧ j < 64
        · obtain ⟨hjn, hj64⟩ := hboth
          have hji : (j : Int) < N := by omega
          have hj2 : (j : Int) < 64 := by omega
          have he := hval.out j
          have hcv := fun W A c h => cv.out j hjn W A c h
          have hcg := fun W A c h => cg.out j hjn W A c h
          have hcy := fun W A c h => cy.out j hjn W A c h
          rw [he] at hcv
          generalize cval gs j = x at hcv hcg
          generalize cval ys j = y at hcv hcy
          replace hcv := Lib.hid hcv
          replace hcg := Lib.hid hcg
          replace hcy := Lib.hid hcy
          clear he
          go_wp2_with fail
          refine (hcg.out _ _ _ hG.out).mono ?_
          rintro e wn ⟨rfl, hb⟩
          replace hB := Lib.hid (btr hB.out hb)
          replace hG := Lib.hid (hG.out.grow hb)
          replace hY := Lib.hid (hY.out.grow hb)
          replace hp := Lib.hid (hp.out.grow hb)
          clear hb
          go_wp2_with fail
          refine (hcy.out _ _ _ hY.out).mono ?_
          rintro e wn ⟨rfl, hb⟩
          replace hB := Lib.hid (btr hB.out hb)
          replace hG := Lib.hid (hG.out.grow hb)
          replace hY := Lib.hid (hY.out.grow hb)
          replace hp := Lib.hid (hp.out.grow hb)
          clear hb
          go_wp2_with fail
          refine (hcv.out _ _ _ hp.out).mono ?_
          rintro e wn ⟨rfl, hb⟩
          replace hB := Lib.hid (btr hB.out hb)
          replace hG := Lib.hid (hG.out.grow hb)
          replace hY := Lib.hid (hY.out.grow hb)
          replace hp := Lib.hid (hp.out.grow hb)
          clear hb
          clear hcv hcg hcy
          cases x
          · cases y
            · go_wp2_with fail
              go_roundw
              case rel => exact ⟨j + 1, by omega, by omega, by first | rfl | simp, hB, hG, hY, hp⟩
              case measure => simp [intOf]; omega
            · go_wp2_with fail
              go_roundw
              case rel => exact ⟨j + 1, by omega, by omega, by first | rfl | simp, hB, hG, hY, hp⟩
              case measure => simp [intOf]; omega
          · cases y
            · go_wp2_with fail
              go_roundw
              case rel => exact ⟨j + 1, by omega, by omega, by first | rfl | simp, hB, hG, hY, hp⟩
              case measure => simp [intOf]; omega
            · go_wp2_with fail
              go_roundw
              case rel => exact ⟨j + 1, by omega, by omega, by first | rfl | simp, hB, hG, hY, hp⟩
              case measure => simp [intOf]; omega
        · by_cases hjn : j < N
          · have hji : (j : Int) < N := by omega
            have hj2 : ¬ (j : Int) < 64 := by omega
            clear cv cg cy hval hG hp hY
            go_wp2_with fail
            go_meet
            exact hB
          · have hji : ¬ (j : Int) < N := by omega
            clear cv cg cy hval hG hp hY
            go_wp2_with fail
            go_meet
            exact hB
end Go.Proofs.Ytkhopkonddgicaa
