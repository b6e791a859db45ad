/- Lemmas and contracts for a law, put together out of several texts: DuI. -/
import Derived.Test.YtbemodacpimiiaaGreatMg13
import Derived.Deep.DeepCutAuto
/- A part of the walk of FnDiagrams. Printed by gen_dui.py. -/
namespace Go.Proofs.YtbemodacpimiiaaGreat
open Go.RowKit
-- QPANIC

/-- The 'if' that tests a slot. -/
def findIf (k : Nat) : Code → Option Code
  | .cond (.tmp t) a b => if t = k then some (.cond (.tmp t) a b) else match findIf k a with
    | some c => some c
    | none => findIf k b
  | .cond _ a b => match findIf k a with
    | some c => some c
    | none => findIf k b
  | .seq a b => match findIf k a with
    | some c => some c
    | none => findIf k b
  | .loop c => findIf k c
  | .block _ c => findIf k c
  | .scope c => findIf k c
  | _ => none

noncomputable def codeDu1 : Code := ((Tryz.f3.body.bind (findIf 168)).getD .skip)
set_option maxRecDepth 1000000 in
set_option maxHeartbeats 16000000 in
theorem FnDiagrams_p1 (ca : Option Addr) (cl cc : Nat) (w1 W0 WE WW wc : World) (ok q kn : Bool) (vars r rr cn : Int) (B A1 A2 D1 D2 : Option Addr) (c k1 k2 m1 m2 : Nat) (ns nn : List Nd) (L : List Int) (hcH : Hid (CodeOk w1 ca cl)) (hsm : cl ≤ 65536) (hnl : ns.length ≤ 64) (hok : Hid (goodD vars r ns = ok)) (hrr : Hid (outR ok vars (valD r ns) = rr)) (hnn : Hid (outN ok vars (valD r ns) = nn)) (hcn : Hid (outC ok vars (valD r ns) = cn)) (S1 : Hid (Sp w1 wc [Box WW.heap.size 26 #[.int .i64 rr, .slice A2 nn.length k2], Box WE.heap.size 26 #[.int .i64 rr, .slice A1 nn.length k1], Box W0.heap.size 26 #[.int .i64 r, .slice B ns.length c]])) (hN : Hid (NdAt wc B ns)) (hE : Hid (NdAt wc A1 nn)) {u43 u44 u45 u46 u47 u48 u49 u50 u51 u52 u53 u54 u55 u56 u57 u58 u59 u60 u61 u62 u63 u64 u65 u66 u67 u68 u69 u70 u71 u72 u73 u74 u75 u76 u77 u78 u79 u80 u81 u82 u83 u84 u85 u86 u87 u88 u89 u90 u91 u92 u93 u94 u95 u96 u97 u98 u99 u100 u101 u102 u103 u104 u105 u106 u107 u108 u109 u110 u111 u112 u113 u114 u115 u116 u117 u118 u119 u120 u121 u122 u123 u124 u125 u126 u127 u128 u129 u130 u131 u132 u133 u134 u135 u136 u137 u138 u139 u140 u141 u142 u143 u144 u145 u146 u147 u148 u149 u150 u151 u152 u153 u154 u155 u156 u157 u158 u159 u160 u161 u162 u163 u164 u165 u166 u169 u170 u171 u172 u173 u174 u175 u176 u177 u178 u179 u180 u181 u182 u183 u184 u185 u186 u187 u188 u189 u190 u191 u192 u193 u194 u195 u196 u197 u198 u199 u200 u201 u202 u203 u204 u205 u206 u207 u208 u209 u210 u211 u212 u213 u214 u215 u216 u217 u218 u219 u220 u221 u222 u223 u224 u225 u226 u227 u228 u229 u230 u231 u232 u233 u234 u235 u236 u237 u238 u239 u240 u241 u242 u243 u244 u245 u246 u247 u248 u249 u250 u251 u252 u253 u254 u255 u256 u257 u258 u259 u260 u261 u262 u263 u264 u265 u266 u267 u268 u269 u270 u271 u272 u273 u274 u275 u276 u277 u278 u279 u280 u281 u282 u283 u284 u285 u286 u287 u288 u289 u290 u291 u292 u293 u294 u295 u296 u297 u298 u299 u300 u301 u302 : Value} {J K : Act → World → Prop} {Q : Exit → Act → World → Prop}
    (hJ : ∀ (a' : Act) (w' : World), (∃ u2 u21 u22 u23 u24 u25 u26 u27 u43 u44 u45 u46 u47 u48 u49 u50 u51 u52 u53 u54 u55 u56 u57 u58 u59 u60 u61 u62 u63 u64 u65 u66 u67 u68 u69 u70 u71 u72 u73 u74 u75 u76 u77 u78 u79 u80 u81 u82 u83 u84 u85 u86 u87 u88 u89 u90 u91 u92 u93 u94 u95 u96 u97 u98 u99 u100 u101 u102 u103 u104 u105 u106 u107 u108 u109 u110 u111 u112 u113 u114 u115 u116 u117 u118 u119 u120 u121 u122 u123 u124 u125 u126 u127 u128 u129 u130 u131 u132 u133 u134 u135 u136 u137 u138 u139 u140 u141 u142 u143 u144 u145 u146 u147 u148 u149 u150 u151 u152 u153 u154 u155 u156 u157 u158 u159 u160 u161 u162 u163 u164 u165 u166 u167 u168 u169 u170 u171 u172 u173 u174 u175 u176 u177 u178 u179 u180 u181 u182 u183 u184 u185 u186 u187 u188 u189 u190 u191 u192 u193 u194 u195 u196 u197 u198 u199 u200 u201 u202 u203 u204 u205 u206 u207 u208 u209 u210 u211 u212 u213 u214 u215 u216 u217 u218 u219 u220 u221 u222 u223 u224 u225 u226 u227 u228 u229 u230 u231 u232 u233 u234 u235 u236 u237 u238 u239 u240 u241 u242 u243 u244 u245 u246 u247 u248 u249 u250 u251 u252 u253 u254 u255 u256 u257 u258 u259 u260 u261 u262 u263 u264 u265 u266 u267 u268 u269 u270 u271 u272 u273 u274 u275 u276 u277 u278 u279 u280 u281 u282 u283 u284 u285 u286 u287 u288 u289 u290 u291 u292 u293 u294 u295 u296 u297 u298 u299 u300 u301 u302 : Value,  Hid (Below w1.heap.size w1 w')  ∧ a' = { tmps := #[Value.slice ca cl cc, undef, u2, Value.int IntKind.i64 vars, Value.pointer (some { block := W0.heap.size, off := 0 }), Value.pointer (some { block := WE.heap.size, off := 0 }), Value.bool ok, Value.pointer (some { block := WW.heap.size, off := 0 }), Value.bool ok, Value.bool (ok && q), Value.bool ok, Value.bool (ok && q), Value.bool ok, Value.int IntKind.i64 cn, Value.bool ok, Value.int IntKind.i64 cn, Value.bool ok, Value.slice D1 L.length m1, Value.bool kn, Value.slice D2 L.length m2, Value.bool kn, u21, u22, u23, u24, u25, u26, u27, undef, undef, undef, undef, undef, undef, undef, undef, undef, undef, undef, undef, undef, undef, undef, u43, u44, u45, u46, u47, u48, u49, u50, u51, u52, u53, u54, u55, u56, u57, u58, u59, u60, u61, u62, u63, u64, u65, u66, u67, u68, u69, u70, u71, u72, u73, u74, u75, u76, u77, u78, u79, u80, u81, u82, u83, u84, u85, u86, u87, u88, u89, u90, u91, u92, u93, u94, u95, u96, u97, u98, u99, u100, u101, u102, u103, u104, u105, u106, u107, u108, u109, u110, u111, u112, u113, u114, u115, u116, u117, u118, u119, u120, u121, u122, u123, u124, u125, u126, u127, u128, u129, u130, u131, u132, u133, u134, u135, u136, u137, u138, u139, u140, u141, u142, u143, u144, u145, u146, u147, u148, u149, u150, u151, u152, u153, u154, u155, u156, u157, u158, u159, u160, u161, u162, u163, u164, u165, u166, u167, u168, u169, u170, u171, u172, u173, u174, u175, u176, u177, u178, u179, u180, u181, u182, u183, u184, u185, u186, u187, u188, u189, u190, u191, u192, u193, u194, u195, u196, u197, u198, u199, u200, u201, u202, u203, u204, u205, u206, u207, u208, u209, u210, u211, u212, u213, u214, u215, u216, u217, u218, u219, u220, u221, u222, u223, u224, u225, u226, u227, u228, u229, u230, u231, u232, u233, u234, u235, u236, u237, u238, u239, u240, u241, u242, u243, u244, u245, u246, u247, u248, u249, u250, u251, u252, u253, u254, u255, u256, u257, u258, u259, u260, u261, u262, u263, u264, u265, u266, u267, u268, u269, u270, u271, u272, u273, u274, u275, u276, u277, u278, u279, u280, u281, u282, u283, u284, u285, u286, u287, u288, u289, u290, u291, u292, u293, u294, u295, u296, u297, u298, u299, u300, u301, u302], defers := [] }) → J a' w')
    (hQ : ∀ (v : _) (a : Act) (d : Option Tmp) (x : Value) (w : World), Q (Exit.panic v) (a.put d x) w → Q (Exit.panic v) a w)
    (hK : ∀ (a' : Act) (w' : World), Met J a' w' → K a' w') :
    Code.wp Tryz.prog codeDu1 (Exit.then K Q) { tmps := #[Value.slice ca cl cc, undef, Value.bool false, Value.int IntKind.i64 vars, Value.pointer (some { block := W0.heap.size, off := 0 }), Value.pointer (some { block := WE.heap.size, off := 0 }), Value.bool ok, Value.pointer (some { block := WW.heap.size, off := 0 }), Value.bool ok, Value.bool (ok && q), Value.bool ok, Value.bool (ok && q), Value.bool ok, Value.int IntKind.i64 cn, Value.bool ok, Value.int IntKind.i64 cn, Value.bool ok, Value.slice D1 L.length m1, Value.bool kn, Value.slice D2 L.length m2, Value.bool kn, undef, undef, undef, undef, undef, undef, undef, undef, undef, undef, undef, undef, undef, undef, undef, undef, undef, undef, undef, undef, undef, undef, u43, u44, u45, u46, u47, u48, u49, u50, u51, u52, u53, u54, u55, u56, u57, u58, u59, u60, u61, u62, u63, u64, u65, u66, u67, u68, u69, u70, u71, u72, u73, u74, u75, u76, u77, u78, u79, u80, u81, u82, u83, u84, u85, u86, u87, u88, u89, u90, u91, u92, u93, u94, u95, u96, u97, u98, u99, u100, u101, u102, u103, u104, u105, u106, u107, u108, u109, u110, u111, u112, u113, u114, u115, u116, u117, u118, u119, u120, u121, u122, u123, u124, u125, u126, u127, u128, u129, u130, u131, u132, u133, u134, u135, u136, u137, u138, u139, u140, u141, u142, u143, u144, u145, u146, u147, u148, u149, u150, u151, u152, u153, u154, u155, u156, u157, u158, u159, u160, u161, u162, u163, u164, u165, u166, Value.bool false, Value.bool ok, u169, u170, u171, u172, u173, u174, u175, u176, u177, u178, u179, u180, u181, u182, u183, u184, u185, u186, u187, u188, u189, u190, u191, u192, u193, u194, u195, u196, u197, u198, u199, u200, u201, u202, u203, u204, u205, u206, u207, u208, u209, u210, u211, u212, u213, u214, u215, u216, u217, u218, u219, u220, u221, u222, u223, u224, u225, u226, u227, u228, u229, u230, u231, u232, u233, u234, u235, u236, u237, u238, u239, u240, u241, u242, u243, u244, u245, u246, u247, u248, u249, u250, u251, u252, u253, u254, u255, u256, u257, u258, u259, u260, u261, u262, u263, u264, u265, u266, u267, u268, u269, u270, u271, u272, u273, u274, u275, u276, u277, u278, u279, u280, u281, u282, u283, u284, u285, u286, u287, u288, u289, u290, u291, u292, u293, u294, u295, u296, u297, u298, u299, u300, u301, u302], defers := [] } wc := by
  dsimp only at hJ ⊢
  conv => arg 2; whnf
  cases ok
  · have hB := Lib.hid S1.out.below
    clear hok hrr hnn hcn hN hE S1
    go_wp2_with fail
    go_meet
    exact hB
  have hg := hok.out
  have g1 := good_parts hg
  obtain ⟨n, rfl⟩ := Int.eq_ofNat_of_zero_le g1.1.1
  have hn : n ≤ 6 := by omega
  have e1 : dgR n (valD r ns) = rr := hrr.out
  have e2 : dgN n (valD r ns) = nn := hnn.out
  have e3 : ((cntB n (valD r ns) : Nat) : Int) = cn := by
    have := hcn.out
    unfold outC at this
    rw [if_pos rfl, Int.toNat_natCast] at this
    exact this
  have hgE : goodD n rr nn = true := by rw [← e1, ← e2]; exact dg_good _ hn
  have hnnl : nn.length ≤ 63 := by rw [← e2]; exact dg_len _ hn
  have hroot : Hid (1 < rr → cn ≠ 0 ∧ cn ≠ ((2 ^ n : Nat) : Int)) := fun h => by
    rw [← e1] at h
    obtain ⟨h1, h2⟩ := root_law h
    rw [← e3]
    exact ⟨by omega, by omega⟩
  have hcnt := fun W (h : NdAt W A1 nn) => cnt_yes (n := n) rr A1 k1 nn W h (by omega) hgE
  have e4 : ((cntB n (valD rr nn) : Nat) : Int) = cn := by rw [← e3, ← e1, ← e2, cnt_own]
  simp only [e4] at hcnt
  have hv1 := fun (b : Nat) (hb : b < 2 ^ n) W (h : NdAt W B ns) => diagramValue_any n r B c ns b W hg hb h (by omega)
  have hv2 := fun (b : Nat) (hb : b < 2 ^ n) W (h : NdAt W A1 nn) => diagramValue_any n rr A1 k1 nn b W hgE hb h (by omega)
  have e5 : ∀ b, b < 2 ^ n → valD rr nn b = valD r ns b := fun b hb => by rw [← e1, ← e2]; exact dg_val hb
  obtain ⟨hsh, hp64⟩ := pow_small hn
  have hsh2 := pow_wrap hn
  have hpp : 1 ≤ 2 ^ n := Nat.one_le_two_pow
  obtain ⟨N, hN2⟩ : ∃ N, 2 ^ n = N := ⟨_, rfl⟩
  rw [hN2] at hsh hsh2 hp64 hpp hroot
  simp only [hN2] at hv1 hv2 e5
  replace hcnt := Lib.hid hcnt
  replace hv1 := Lib.hid hv1
  replace hv2 := Lib.hid hv2
  replace e5 := Lib.hid e5
  have hcn0 : 0 ≤ cn ∧ cn ≤ 64 := by
    rw [← e3]
    have := cnt_small hn (valD r ns)
    omega
  clear hok hrr hnn hcn hg g1 e1 e2 e3 e4 hgE hN2
  have c0 := S1.out.cell (i := 2) rfl (o := 0) rfl
  have c1 := S1.out.cell (i := 2) rfl (o := 1) rfl
  have d0 := S1.out.cell (i := 1) rfl (o := 0) rfl
  have d1 := S1.out.cell (i := 1) rfl (o := 1) rfl
  go_wp2_with fail
  refine (hcnt.out _ hE.out).mono ?_
  rintro e w2 ⟨rfl, hb⟩
  replace S1 := Lib.hid (S1.out.grow hb)
  replace hN := Lib.hid (hN.out.grow hb)
  replace hE := Lib.hid (hE.out.grow hb)
  clear hb hcnt c0 c1 d0 d1
  have va := Lib.hid (vAtU_any ca cl cc 4 w2.drew (hcH.out.grow (bdr S1.out.below)) hsm (by decide))
  have hNi : (0 : Int) < N := by omega
  have hNz : ¬ (N : Int) = 0 := by omega
  have hN0 : ¬ N = 0 := by omega
  go_wp2_with fail
  refine wp_region_held_lit (S := (fun w' => True)) 6 [false, false, false, false, false, false] (by kernel_rfl) (by kernel_rfl) (by kernel_rfl) ?_ ?_
  · trivial
  intro hSc
  (refine wpAnyH_take (i := 0) (v := ?_) rfl (by kernel_rfl) (by kernel_rfl) (by kernel_rfl) (fun _ _ _ h => hQ _ _ _ _ _ h) (Or.inl ⟨by rfl, ?_⟩) (by assumption) ?_; rotate_left; (focus (intro w hSw; (try dsimp only at hSw); go_simp; (try with_reducible rfl); done)); (try simp only [put_rules]))
  (refine wpAnyH_take (i := 2) (v := ?_) rfl (by kernel_rfl) (by kernel_rfl) (by kernel_rfl) (fun _ _ _ h => hQ _ _ _ _ _ h) (Or.inl ⟨by rfl, ?_⟩) (by assumption) ?_; rotate_left; (focus (intro w hSw; (try dsimp only at hSw); go_simp; (try with_reducible rfl); done)); (try simp only [put_rules]))
  (refine wpAnyH_take (i := 3) (v := ?_) rfl (by kernel_rfl) (by kernel_rfl) (by kernel_rfl) (fun _ _ _ h => hQ _ _ _ _ _ h) (Or.inl ⟨by rfl, ?_⟩) (by assumption) ?_; rotate_left; (focus (intro w hSw; (try dsimp only at hSw); go_simp; (try with_reducible rfl); done)); (try simp only [put_rules]))
  (try rw [hsh])
  (try rw [hsh2])
  (refine wpAnyH_ready (rs := [1]) (by kernel_rfl) (by simp) ?_; refine AllReadyH.cons rfl (fun K hK => ?_) AllReadyH.nil)
  go_simp
  go_at_call 18
  refine va.out.mono ?_
  rintro e w3 ⟨x, hx0, hx1, rfl, rfl⟩
  obtain ⟨b, hb, hbx⟩ : ∃ b : Nat, b < N ∧ x.tmod (N : Int) = (b : Int) := ⟨(x % (N : Int)).toNat, by have := Int.emod_lt_of_pos x hNi; have := Int.emod_nonneg x hNz; omega, by rw [Int.tmod_eq_emod_of_nonneg hx0]; have := Int.emod_nonneg x hNz; omega⟩
  go_wp2_with fail
  refine hK.out _ _ trivial (fun hSd => ?_)
  clear hK hSc
  (try simp only [put_rules])
  (refine wpAnyH_take (i := 4) (v := ?_) rfl (by kernel_rfl) (by kernel_rfl) (by kernel_rfl) (fun _ _ _ h => hQ _ _ _ _ _ h) (Or.inl ⟨by rfl, ?_⟩) (by assumption) ?_; rotate_left; (focus (intro w hSw; (try dsimp only at hSw); go_simp; (try with_reducible rfl); done)); (try simp only [put_rules]))
  (refine wpAnyH_take (i := 5) (v := ?_) rfl (by kernel_rfl) (by kernel_rfl) (by kernel_rfl) (fun _ _ _ h => hQ _ _ _ _ _ h) (Or.inl ⟨by rfl, ?_⟩) (by assumption) ?_; rotate_left; (focus (intro w hSw; (try dsimp only at hSw); go_simp; (try with_reducible rfl); done)); (try simp only [put_rules]))
  (refine wpAnyH_done (by kernel_rfl) ?_ _)
  clear hSd
  replace S1 := Lib.hid S1.out.drew
  replace hN := Lib.hid (hN.out.grow (bdr (bb _)))
  replace hE := Lib.hid (hE.out.grow (bdr (bb _)))
  have c0 := S1.out.cell (i := 2) rfl (o := 0) rfl
  have c1 := S1.out.cell (i := 2) rfl (o := 1) rfl
  have hvx := Lib.hid (hv1.out b hb)
  have hvy := Lib.hid (hv2.out b hb)
  rw [e5.out b hb] at hvy
  generalize valD r ns b = q9 at hvx hvy
  clear hv1 hv2 e5 va
  go_wp2_with fail
  refine (hvx.out _ hN.out).mono ?_
  rintro e w4 ⟨rfl, hb4⟩
  replace S1 := Lib.hid (S1.out.grow hb4)
  replace hE := Lib.hid (hE.out.grow hb4)
  clear hb4 hvx hN c0 c1
  have d0 := S1.out.cell (i := 1) rfl (o := 0) rfl
  have d1 := S1.out.cell (i := 1) rfl (o := 1) rfl
  go_wp2_with fail
  refine (hvy.out _ hE.out).mono ?_
  rintro e w5 ⟨rfl, hb5⟩
  replace S1 := Lib.hid (S1.out.grow hb5)
  clear hb5 hvy hE d0 d1
  have d0 := S1.out.cell (i := 1) rfl (o := 0) rfl
  have hB := Lib.hid S1.out.below
  have e9 : (q9 != q9) = false := by cases q9 <;> rfl
  clear S1
  by_cases hr1 : 1 < rr
  · obtain ⟨h1, h2⟩ := hroot.out hr1
    have h1b : (cn == 0) = false := by simpa using h1
    have h2b : (cn == (N : Int)) = false := by simpa using h2
    have h2c : ¬ cn = (N : Int) := h2
    have h1c : ¬ cn = 0 := h1
    clear hroot
    go_wp2_with fail

    go_meet
    exact hB
  · clear hroot
    go_wp2_with fail
    go_meet
    exact hB
end Go.Proofs.YtbemodacpimiiaaGreat
