/- Lemmas and contracts for a law, put together out of several texts: DtL. -/
import Derived.Test.YtbemodacpimiiaaMg12
import Derived.Deep.DeepCutAuto
/- The middle part of the walk of FnDiagramTraces. Printed by gen_dtl.py. -/
namespace Go.Proofs.Ytbemodacpimiiaa
open Go.RowKit
-- QPANIC
/-- The 'if' that tests a slot. -/
def findIf (k : Nat) : Code → Option Code
  | .cond (.tmp t) a b => if t = k then some (.cond (.tmp t) a b) else match findIf k a with
    | some c => some c
    | none => findIf k b
  | .cond _ a b => match findIf k a with
    | some c => some c
    | none => findIf k b
  | .seq a b => match findIf k a with
    | some c => some c
    | none => findIf k b
  | .loop c => findIf k c
  | .block _ c => findIf k c
  | .scope c => findIf k c
  | _ => none
noncomputable def codeDt : Code := ((Try.f3.body.bind (findIf 98)).getD .skip)
set_option maxRecDepth 1000000 in
set_option maxHeartbeats 16000000 in
theorem FnDiagramTraces_p1 (ca : Option Addr) (cl cc : Nat) (w1 W0 wc : World) (ok q : Bool) (vars : Int) (B A1 A2 A3 A4 : Option Addr) (cap k1 k2 k3 k4 : Nat) (xss : List (List Int)) (F : List Nat) (L : List (Int × List Nd)) (z : List Int) (hcH : Hid (CodeOk w1 ca cl)) (hsm : cl ≤ 65536) (hLl : L.length ≤ 60) (hsm2 : Hid (∀ d ∈ L, d.2.length ≤ 63)) (hz : Hid (szL L = z)) (hok : Hid (dCnf vars xss = ok)) (hL : Hid (outL ok vars xss = L)) (hzl : Hid (z.length = L.length)) (hq : Hid (q = (ok && decide (0 < L.length)))) (S1 : Hid (Sp w1 wc [Box W0.heap.size 26 #[.int .i64 vars, .slice B xss.length cap]])) (hR : Hid ((Ty.slice Ty.int).row false wc (.slice B xss.length cap) xss F)) (hD : Hid (DgsAt wc A1 L)) (hZ : Hid (IntsAt wc A3 z)) {u2 u29 u30 u31 u32 u33 u34 u35 u36 u37 u38 u39 u40 u41 u42 u43 u44 u45 u46 u47 u48 u49 u50 u51 u52 u53 u54 u55 u56 u57 u58 u59 u60 u61 u62 u63 u64 u65 u66 u67 u68 u69 u70 u71 u72 u73 u74 u75 u76 u77 u78 u79 u80 u81 u82 u83 u84 u85 u86 u87 u88 u89 u90 u91 u92 u93 u94 u95 u96 u97 u99 u100 u101 u102 u103 u104 u105 u106 u107 u108 u109 u110 u111 u112 u113 u114 u115 u116 u117 u118 u119 u120 u121 u122 u123 u124 u125 u126 u127 u128 u129 u130 u131 u132 u133 u134 u135 u136 u137 u138 u139 u140 u141 u142 u143 u144 u145 u146 u147 u148 u149 u150 u151 u152 u153 u154 u155 u156 u157 u158 u159 u160 u161 u162 u163 u164 u165 u166 u167 u168 u169 u170 u171 u172 u173 u174 u175 u176 u177 u178 u179 u180 u181 u182 u183 u184 u185 u186 u187 u188 u189 u190 u191 u192 u193 u194 u195 u196 u197 u198 u199 u200 u201 u202 u203 u204 u205 u206 u207 u208 u209 u210 u211 u212 u213 u214 u215 u216 u217 u218 u219 u220 u221 u222 u223 u224 u225 u226 u227 u228 u229 u230 u231 u232 : Value} {J K : Act → World → Prop} {Q : Exit → Act → World → Prop}
    (hJ : ∀ (a' : Act) (w' : World), (∃ u2 u13 u14 u15 u16 u17 u18 u19 u20 u21 u22 u29 u30 u31 u32 u33 u34 u35 u36 u37 u38 u39 u40 u41 u42 u43 u44 u45 u46 u47 u48 u49 u50 u51 u52 u53 u54 u55 u56 u57 u58 u59 u60 u61 u62 u63 u64 u65 u66 u67 u68 u69 u70 u71 u72 u73 u74 u75 u76 u77 u78 u79 u80 u81 u82 u83 u84 u85 u86 u87 u88 u89 u90 u91 u92 u93 u94 u95 u96 u97 u98 u99 u100 u101 u102 u103 u104 u105 u106 u107 u108 u109 u110 u111 u112 u113 u114 u115 u116 u117 u118 u119 u120 u121 u122 u123 u124 u125 u126 u127 u128 u129 u130 u131 u132 u133 u134 u135 u136 u137 u138 u139 u140 u141 u142 u143 u144 u145 u146 u147 u148 u149 u150 u151 u152 u153 u154 u155 u156 u157 u158 u159 u160 u161 u162 u163 u164 u165 u166 u167 u168 u169 u170 u171 u172 u173 u174 u175 u176 u177 u178 u179 u180 u181 u182 u183 u184 u185 u186 u187 u188 u189 u190 u191 u192 u193 u194 u195 u196 u197 u198 u199 u200 u201 u202 u203 u204 u205 u206 u207 u208 u209 u210 u211 u212 u213 u214 u215 u216 u217 u218 u219 u220 u221 u222 u223 u224 u225 u226 u227 u228 u229 u230 u231 u232 : Value,  Hid (Below w1.heap.size w1 w')  ∧ a' = { tmps := #[Value.slice ca cl cc, undef, u2, Value.pointer (some { block := W0.heap.size, off := 0 }), Value.slice A1 L.length k1, Value.bool ok, Value.slice A2 L.length k2, Value.bool ok, Value.int IntKind.i64 ↑L.length, Value.slice A3 z.length k3, Value.bool ok, Value.slice A4 z.length k4, Value.bool ok, u13, u14, u15, u16, u17, u18, u19, u20, u21, u22, undef, undef, undef, undef, undef, undef, u29, u30, u31, u32, u33, u34, u35, u36, u37, u38, u39, u40, u41, u42, u43, u44, u45, u46, u47, u48, u49, u50, u51, u52, u53, u54, u55, u56, u57, u58, u59, u60, u61, u62, u63, u64, u65, u66, u67, u68, u69, u70, u71, u72, u73, u74, u75, u76, u77, u78, u79, u80, u81, u82, u83, u84, u85, u86, u87, u88, u89, u90, u91, u92, u93, u94, u95, u96, u97, u98, u99, u100, u101, u102, u103, u104, u105, u106, u107, u108, u109, u110, u111, u112, u113, u114, u115, u116, u117, u118, u119, u120, u121, u122, u123, u124, u125, u126, u127, u128, u129, u130, u131, u132, u133, u134, u135, u136, u137, u138, u139, u140, u141, u142, u143, u144, u145, u146, u147, u148, u149, u150, u151, u152, u153, u154, u155, u156, u157, u158, u159, u160, u161, u162, u163, u164, u165, u166, u167, u168, u169, u170, u171, u172, u173, u174, u175, u176, u177, u178, u179, u180, u181, u182, u183, u184, u185, u186, u187, u188, u189, u190, u191, u192, u193, u194, u195, u196, u197, u198, u199, u200, u201, u202, u203, u204, u205, u206, u207, u208, u209, u210, u211, u212, u213, u214, u215, u216, u217, u218, u219, u220, u221, u222, u223, u224, u225, u226, u227, u228, u229, u230, u231, u232], defers := [] }) → J a' w')
    (hQ : ∀ (v : _) (a : Act) (d : Option Tmp) (x : Value) (w : World), Q (Exit.panic v) (a.put d x) w → Q (Exit.panic v) a w)
    (hK : ∀ (a' : Act) (w' : World), Met J a' w' → K a' w') :
    Code.wp Try.prog codeDt (Exit.then K Q) { tmps := #[Value.slice ca cl cc, undef, u2, Value.pointer (some { block := W0.heap.size, off := 0 }), Value.slice A1 L.length k1, Value.bool ok, Value.slice A2 L.length k2, Value.bool ok, Value.int IntKind.i64 ↑L.length, Value.slice A3 z.length k3, Value.bool ok, Value.slice A4 z.length k4, Value.bool ok, undef, undef, undef, undef, undef, undef, undef, undef, undef, undef, undef, undef, undef, undef, undef, undef, u29, u30, u31, u32, u33, u34, u35, u36, u37, u38, u39, u40, u41, u42, u43, u44, u45, u46, u47, u48, u49, u50, u51, u52, u53, u54, u55, u56, u57, u58, u59, u60, u61, u62, u63, u64, u65, u66, u67, u68, u69, u70, u71, u72, u73, u74, u75, u76, u77, u78, u79, u80, u81, u82, u83, u84, u85, u86, u87, u88, u89, u90, u91, u92, u93, u94, u95, u96, u97, Value.bool q, u99, u100, u101, u102, u103, u104, u105, u106, u107, u108, u109, u110, u111, u112, u113, u114, u115, u116, u117, u118, u119, u120, u121, u122, u123, u124, u125, u126, u127, u128, u129, u130, u131, u132, u133, u134, u135, u136, u137, u138, u139, u140, u141, u142, u143, u144, u145, u146, u147, u148, u149, u150, u151, u152, u153, u154, u155, u156, u157, u158, u159, u160, u161, u162, u163, u164, u165, u166, u167, u168, u169, u170, u171, u172, u173, u174, u175, u176, u177, u178, u179, u180, u181, u182, u183, u184, u185, u186, u187, u188, u189, u190, u191, u192, u193, u194, u195, u196, u197, u198, u199, u200, u201, u202, u203, u204, u205, u206, u207, u208, u209, u210, u211, u212, u213, u214, u215, u216, u217, u218, u219, u220, u221, u222, u223, u224, u225, u226, u227, u228, u229, u230, u231, u232], defers := [] } wc := by
  dsimp only at hJ ⊢
  conv => arg 2; whnf
  let Qf : Exit → Act → World → Prop := bodyPost Try.prog Try.f3 (fun _ _ => True)
  obtain ⟨wb, hwb⟩ : ∃ wb, wb = wc := ⟨_, rfl⟩
  subst hwb
  cases q
  · have hB := Lib.hid S1.out.below
    clear hq hok hL hz hzl hsm2 hR hD hZ S1
    go_wp2_with fail
    go_meet
    exact hB
  have hq2 := hq.out.symm
  rw [Bool.and_eq_true, decide_eq_true_eq] at hq2
  obtain ⟨rfl, h0⟩ := hq2
  have hd := hok.out
  unfold dCnf at hd
  rw [Bool.and_eq_true, inB_def] at hd
  obtain ⟨⟨hv2, hv3⟩, hg⟩ := hd
  obtain ⟨n, rfl⟩ := Int.eq_ofNat_of_zero_le hv2
  have hn : n ≤ 6 := by omega
  have hLe : Hid (trL n xss xss.length = L) := hL.out
  have hxm : L.length = xss.length := by rw [← hLe.out, trL_len]
  obtain ⟨m, hm⟩ : ∃ m, xss.length = m := ⟨_, rfl⟩
  rw [hm] at hxm
  rw [hxm] at h0 hLl hzl
  rw [hxm] at hJ ⊢
  have hzm := hzl.out
  rw [hzm] at hJ ⊢
  have c0 := S1.out.cell (i := 0) rfl (o := 0) rfl
  have c1 := S1.out.cell (i := 0) rfl (o := 1) rfl
  have hB1 := Lib.hid S1.out.below
  have va := Lib.hid (vAtD_any ca cl cc 3 wb (hcH.out.grow hB1.out) hsm (by decide))
  rw [hm] at c1
  replace hxm := Lib.hid hxm
  replace hzm := Lib.hid hzm
  replace hm := Lib.hid hm
  replace hg := Lib.hid hg
  clear hq hok hL hv2 hv3 hcH hzl S1
  have hmi : (0 : Int) < m := by omega
  have hmz : ¬ (m : Int) = 0 := by omega
  go_wp2_with fail
  refine va.out.mono ?_
  rintro e w2 ⟨x, hx0, hx1, rfl, rfl⟩
  obtain ⟨j, hj, hjx⟩ : ∃ j : Nat, j < m ∧ x.tmod (m : Int) = (j : Int) := ⟨(x % (m : Int)).toNat, by have := Int.emod_lt_of_pos x hmi; have := Int.emod_nonneg x hmz; omega, by rw [Int.tmod_eq_emod_of_nonneg hx0]; have := Int.emod_nonneg x hmz; omega⟩
  have hjx2 : j < xss.length := by rw [hm.out]; exact hj
  have hji : (j : Int) < m := by omega
  obtain ⟨cb, coff, E, ec, G, rfl, mc, hrc⟩ := cnf_clause hR.out hjx2
  have hcl := Lib.hid (fun W (hb : Below wb.heap.size wb W) => dcl_step hn hg.out hjx2 E ec G W (Ty.row_grow hrc hb))
  have hand := Lib.hid (fun A A' c c' W h h' => dand_step (n := n) hn hjx2 A A' c c' W h h')
  have hfirst : Hid (j = 0 → dgN n (clT xss[j]) = dgN n (modT (xss.take (j + 1))) ∧ dgR n (clT xss[j]) = dgR n (modT (xss.take (j + 1)))) := fun e => by
    subst e; exact first_eq hjx2
  have hLe2 := hLe.out
  subst hLe2
  obtain ⟨lb, loff, M2, mc2, eA, p0, p1, hM2⟩ := hD.out.at_ j (by rw [trL_len, hm.out]; exact hj)
  obtain ⟨lb', loff', M3, mc3, eA', q0, q1, hM3⟩ := hD.out.at_ (m - 1) (by rw [trL_len, hm.out]; omega)
  have hprev : Hid (j ≠ 0 → ∃ N2 nc2, wb.cell? ⟨lb, loff + (j - 1) * 2, none⟩ = some (.int .i64 (dgR n (modT (xss.take j)))) ∧ wb.cell? ⟨lb, loff + (j - 1) * 2 + 1, none⟩ = some (.slice N2 (dgN n (modT (xss.take j))).length nc2) ∧ NdAt wb N2 (dgN n (modT (xss.take j)))) := by
    intro h0
    obtain ⟨lb2, loff2, N2, nc2, e2, a0, a1, a2⟩ := hD.out.at_ (j - 1) (by rw [trL_len, hm.out]; omega)
    rw [eA] at e2
    cases e2
    simp only [trL_get, trT, show j - 1 + 1 = j by omega] at a0 a1 a2
    exact ⟨N2, nc2, a0, a1, a2⟩
  simp only [trL_get] at p0 p1 hM2 q0 q1 hM3
  rw [show m - 1 = xss.length - 1 by rw [hm.out], last_eq (by omega)] at q0 q1 hM3
  rw [hm.out] at q0 q1
  simp only [trT] at p0 p1 hM2
  have hds := Lib.hid (dis_step hn hg.out (.slice (some ⟨cb, coff, none⟩) xss.length cap) F A1 k1)
  rw [trL_len, hm.out] at hds
  have hZj : Hid (∃ b off, A3 = some ⟨b, off, none⟩ ∧ wb.cell? ⟨b, off + j, none⟩ = some (.int .i64 ((dgN n (modT (xss.take (j + 1)))).length : Int))) := by
    have hjz : j < z.length := by rw [← hz.out, szL_len, trL_len, hm.out]; exact hj
    obtain ⟨b, off, e, h⟩ := hZ.out.at_ j hjz
    refine ⟨b, off, e, ?_⟩
    rw [h]
    have : z[j] = ((dgN n (modT (xss.take (j + 1)))).length : Int) := by
      have h2 := hz.out
      subst h2
      simp only [szL, List.getElem_map, trL_get, trT]
    rw [this]
  have hs2 := dg_len (modT (xss.take (j + 1))) hn
  have hs3 := dg_len (modT xss) hn
  have hall := Lib.hid (dall_step hn hg.out (.slice (some ⟨cb, coff, none⟩) xss.length cap) F)
  have hsat := Lib.hid (dsat_step hg.out (.slice (some ⟨cb, coff, none⟩) xss.length cap) F)
  rw [hm.out] at hall hsat
  have hRm := hR.out
  rw [hm.out] at hRm
  replace hRm := Lib.hid hRm
  have hDm := hD.out
  rw [hm.out] at hDm
  replace hDm := Lib.hid hDm
  cases eA
  cases eA'
  generalize xss[j].length = xl at *
  generalize dgR n (clT xss[j]) = r1 at *
  generalize dgN n (clT xss[j]) = n1 at *
  generalize dgR n (modT (xss.take (j + 1))) = r2 at *
  generalize dgN n (modT (xss.take (j + 1))) = n2 at *
  generalize dgR n (modT (xss.take j)) = r0 at *
  generalize dgN n (modT (xss.take j)) = n0 at *
  generalize dgR n (modT xss) = r3 at *
  generalize dgN n (modT xss) = n3 at *
  replace hM2 := Lib.hid hM2
  replace hM3 := Lib.hid hM3
  clear hrc va
  go_upto_region 19 with fail
  go_cut [14, 15] (fun s t wx => ∃ (db : Nat) (N : Option Addr) (nc : Nat), s = .pointer (some ⟨db, 0, none⟩) ∧ t = .bool true ∧ Hid (wx.cell? ⟨db, 0, none⟩ = some (.int .i64 r1)) ∧ Hid (wx.cell? ⟨db, 1, none⟩ = some (.slice N n1.length nc)) ∧ Hid (NdAt wx N n1) ∧ Hid (Below wb.heap.size wb wx))
  case first =>
    as_aux_lemma =>
      clear hR hRm hD hDm hZ hand hfirst hB1 hz hsm2 hprev hZj hall hsat hds hM2 hM3 p0 p1 q0 q1
      have hlt0 := World.block_lt_of_cell? _ _ c0
      have hlt1 := World.block_lt_of_cell? _ _ mc
      have hkeep : Hid (∀ W, Below wb.heap.size wb W → W.cell? ⟨W0.heap.size, 0, none⟩ = some (.int .i64 n) ∧ W.cell? ⟨W0.heap.size, 1, none⟩ = some (.slice (some ⟨cb, coff, none⟩) m cap) ∧ W.cell? ⟨cb, coff + j, none⟩ = some (.slice E xl ec)) := fun W hb => ⟨((bcell hb).1 _ _ hlt0).trans c0, ((bcell hb).1 _ _ hlt0).trans c1, ((bcell hb).1 _ _ hlt1).trans mc⟩
      refine wp_region_held_lit (S := (fun w' => w'.cell? ⟨W0.heap.size, 0, none⟩ = some (.int .i64 n) ∧ w'.cell? ⟨W0.heap.size, 1, none⟩ = some (.slice (some ⟨cb, coff, none⟩) m cap) ∧ w'.cell? ⟨cb, coff + j, none⟩ = some (.slice E xl ec))) 14 [false, false, false, false, false, false, false, false, false, false, false, false, false, false] (by kernel_rfl) (by kernel_rfl) (by kernel_rfl) ?_ ?_
      · exact hkeep.out _ (bdr (bb _))
      intro hSc
      clear c0 c1 mc
      (refine wpAnyH_take (i := 0) (v := ?_) rfl (by kernel_rfl) (by kernel_rfl) (by kernel_rfl) (fun _ _ _ h => hQ _ _ _ _ _ h) (Or.inl ⟨by rfl, ?_⟩) (by assumption) ?_; rotate_left; (focus (intro w hSw; (try dsimp only at hSw); go_simp; (try with_reducible rfl); done)); (try simp only [put_rules]))
      (refine wpAnyH_take (i := 1) (v := ?_) rfl (by kernel_rfl) (by kernel_rfl) (by kernel_rfl) (fun _ _ _ h => hQ _ _ _ _ _ h) (Or.inl ⟨by rfl, ?_⟩) (by assumption) ?_; rotate_left; (focus (intro w hSw; (try dsimp only at hSw); go_simp; (try with_reducible rfl); done)); (try simp only [put_rules]))
      (refine wpAnyH_take (i := 2) (v := ?_) rfl (by kernel_rfl) (by kernel_rfl) (by kernel_rfl) (fun _ _ _ h => hQ _ _ _ _ _ h) (Or.inl ⟨by rfl, ?_⟩) (by assumption) ?_; rotate_left; (focus (intro w hSw; (try dsimp only at hSw); go_simp; (try with_reducible rfl); done)); (try simp only [put_rules]))
      (refine wpAnyH_take (i := 3) (v := ?_) rfl (by kernel_rfl) (by kernel_rfl) (by kernel_rfl) (fun _ _ _ h => hQ _ _ _ _ _ h) (Or.inl ⟨by rfl, ?_⟩) (by assumption) ?_; rotate_left; (focus (intro w hSw; (try dsimp only at hSw); go_simp; (try with_reducible rfl); done)); (try simp only [put_rules]))
      (refine wpAnyH_take (i := 4) (v := ?_) rfl (by kernel_rfl) (by kernel_rfl) (by kernel_rfl) (fun _ _ _ h => hQ _ _ _ _ _ h) (Or.inl ⟨by rfl, ?_⟩) (by assumption) ?_; rotate_left; (focus (intro w hSw; (try dsimp only at hSw); go_simp; (try with_reducible rfl); done)); (try simp only [put_rules]))
      (refine wpAnyH_take (i := 5) (v := ?_) rfl (by kernel_rfl) (by kernel_rfl) (by kernel_rfl) (fun _ _ _ h => hQ _ _ _ _ _ h) (Or.inl ⟨by rfl, ?_⟩) (by assumption) ?_; rotate_left; (focus (intro w hSw; (try dsimp only at hSw); go_simp; (try with_reducible rfl); done)); (try simp only [put_rules]))
      (refine wpAnyH_take (i := 6) (v := ?_) rfl (by kernel_rfl) (by kernel_rfl) (by kernel_rfl) (fun _ _ _ h => hQ _ _ _ _ _ h) (Or.inl ⟨by rfl, ?_⟩) (by assumption) ?_; rotate_left; (focus (intro w hSw; (try dsimp only at hSw); go_simp; (try with_reducible rfl); done)); (try simp only [put_rules]))
      (refine wpAnyH_ready (rs := [7, 11]) (by kernel_rfl) (by simp) ?_; refine AllReadyH.cons rfl (fun K hK => ?_) (AllReadyH.cons rfl (fun K hK => ?_) AllReadyH.nil))
      · go_simp
        go_at_call 16
        refine (hcl.out _ (bdr (bb _))).mono ?_
        rintro e w3 ⟨N, nc, rfl, hN, hNf, hb⟩
        replace hNf := Lib.hid hNf
        have S3 := (Sp.of_below (bdr (bb wb))).grow hb
        replace hN := Lib.hid hN
        replace S3 := Lib.hid S3
        clear hb
        go_wp2_with fail
        refine hK.out _ _ (hkeep.out _ S3.out.below) (fun hSd => ?_)
        clear hK hSc
        (try simp only [put_rules])
        (refine wpAnyH_take (i := 8) (v := ?_) rfl (by kernel_rfl) (by kernel_rfl) (by kernel_rfl) (fun _ _ _ h => hQ _ _ _ _ _ h) (Or.inl ⟨by rfl, ?_⟩) (by assumption) ?_; rotate_left; (focus (intro w hSw; (try dsimp only at hSw); go_simp; (try with_reducible rfl); done)); (try simp only [put_rules]))
        (refine wpAnyH_take (i := 9) (v := ?_) rfl (by kernel_rfl) (by kernel_rfl) (by kernel_rfl) (fun _ _ _ h => hQ _ _ _ _ _ h) (Or.inl ⟨by rfl, ?_⟩) (by assumption) ?_; rotate_left; (focus (intro w hSw; (try dsimp only at hSw); go_simp; (try with_reducible rfl); done)); (try simp only [put_rules]))
        (refine wpAnyH_take (i := 10) (v := ?_) rfl (by kernel_rfl) (by kernel_rfl) (by kernel_rfl) (fun _ _ _ h => hQ _ _ _ _ _ h) (Or.inl ⟨by rfl, ?_⟩) (by assumption) ?_; rotate_left; (focus (intro w hSw; (try dsimp only at hSw); go_simp; (try with_reducible rfl); done)); (try simp only [put_rules]))
        (refine wpAnyH_ready (rs := [11]) (by kernel_rfl) (by simp) ?_; refine AllReadyH.cons rfl (fun K hK => ?_) AllReadyH.nil)
        go_simp
        have S4 := Lib.hid (S3.out.alloc_box #[.int .i64 0, .slice none 0 0] 34)
        have hN2 := Lib.hid (hN.out.grow (bal (bb w3) (.cells #[.int .i64 0, .slice none 0 0] 34)))
        refine hK.out _ _ (hkeep.out _ S4.out.below) (fun hSe => ?_)
        clear hK hSd
        (try simp only [put_rules])
        have x0 := S4.out.cell (i := 0) rfl (o := 0) rfl
        have x1 := S4.out.cell (i := 0) rfl (o := 1) rfl
        have y0 := S4.out.frozen (i := 0) rfl 0
        have y1 := S4.out.frozen (i := 0) rfl 1
        have hlt3 := (S4.out.box (i := 0) rfl).2.1
        (refine wpAnyH_ready (rs := [12]) (by kernel_rfl) (by simp) ?_; refine AllReadyH.cons rfl (fun K hK => ?_) AllReadyH.nil)
        go_simp
        have S5 := S3.out.alloc_box #[.int .i64 r1, .slice N n1.length nc] 34
        have hN3 := hN.out.grow (bal (bb w3) (.cells #[.int .i64 r1, .slice N n1.length nc] 34))
        have z0 := Lib.hid (S5.cell (i := 0) rfl (o := 0) rfl)
        have z1 := Lib.hid (S5.cell (i := 0) rfl (o := 1) rfl)
        replace hN3 := Lib.hid hN3
        replace S5 := Lib.hid S5.below
        refine hK.out _ _ (hkeep.out _ S5.out) (fun hSf => ?_)
        clear hK hSe S4 hN2 x0 x1 y0 y1
        (try simp only [put_rules])
        (refine wpAnyH_take (i := 13) (v := ?_) rfl (by kernel_rfl) (by kernel_rfl) (by kernel_rfl) (fun _ _ _ h => hQ _ _ _ _ _ h) (Or.inl ⟨by rfl, ?_⟩) (by assumption) ?_; rotate_left; (focus (intro w hSw; (try dsimp only at hSw); go_simp; (try with_reducible rfl); done)); (try simp only [put_rules]))
        (refine wpAnyH_done (by kernel_rfl) ?_ _)
        clear hkeep hSf hN S3
        go_wp2_with fail
        go_meet
        exact ⟨w3.heap.size, N, nc, rfl, rfl, z0, z1, hN3, S5⟩
      · go_simp
        have S3 := Lib.hid (show Sp wb _ [Box wb.heap.size 34 #[.int .i64 0, .slice none 0 0]] from (Sp.of_below (bdr (bb wb))).alloc_box #[.int .i64 0, .slice none 0 0] 34)
        refine hK.out _ _ (hkeep.out _ S3.out.below) (fun hSd => ?_)
        clear hK hSc
        (try simp only [put_rules])
        (refine wpAnyH_ready (rs := [7]) (by kernel_rfl) (by simp) ?_; refine AllReadyH.cons rfl (fun K hK => ?_) AllReadyH.nil)
        go_simp
        go_at_call 16
        refine (hcl.out _ S3.out.below).mono ?_
        rintro e w3 ⟨N, nc, rfl, hN, hNf, hb⟩
        replace hNf := Lib.hid hNf
        have S4 := S3.out.grow hb
        replace hN := Lib.hid hN
        replace S4 := Lib.hid S4
        clear S3 hb
        go_wp2_with fail
        refine hK.out _ _ (hkeep.out _ S4.out.below) (fun hSe => ?_)
        clear hK hSd
        (try simp only [put_rules])
        (refine wpAnyH_take (i := 8) (v := ?_) rfl (by kernel_rfl) (by kernel_rfl) (by kernel_rfl) (fun _ _ _ h => hQ _ _ _ _ _ h) (Or.inl ⟨by rfl, ?_⟩) (by assumption) ?_; rotate_left; (focus (intro w hSw; (try dsimp only at hSw); go_simp; (try with_reducible rfl); done)); (try simp only [put_rules]))
        (refine wpAnyH_take (i := 9) (v := ?_) rfl (by kernel_rfl) (by kernel_rfl) (by kernel_rfl) (fun _ _ _ h => hQ _ _ _ _ _ h) (Or.inl ⟨by rfl, ?_⟩) (by assumption) ?_; rotate_left; (focus (intro w hSw; (try dsimp only at hSw); go_simp; (try with_reducible rfl); done)); (try simp only [put_rules]))
        (refine wpAnyH_take (i := 10) (v := ?_) rfl (by kernel_rfl) (by kernel_rfl) (by kernel_rfl) (fun _ _ _ h => hQ _ _ _ _ _ h) (Or.inl ⟨by rfl, ?_⟩) (by assumption) ?_; rotate_left; (focus (intro w hSw; (try dsimp only at hSw); go_simp; (try with_reducible rfl); done)); (try simp only [put_rules]))
        have x0 := S4.out.cell (i := 0) rfl (o := 0) rfl
        have x1 := S4.out.cell (i := 0) rfl (o := 1) rfl
        have y0 := S4.out.frozen (i := 0) rfl 0
        have y1 := S4.out.frozen (i := 0) rfl 1
        (refine wpAnyH_ready (rs := [12]) (by kernel_rfl) (by simp) ?_; refine AllReadyH.cons rfl (fun K hK => ?_) AllReadyH.nil)
        go_simp
        have S5 := (S4.out.store (i := 0) rfl 0 (.int .i64 r1)).store (i := 0) rfl 1 (.slice N n1.length nc)
        have hne : ∀ a, N = some a → a.block ≠ wb.heap.size := fun a ha => by have := hNf.out a ha; simp at this; omega
        have hN3 := (hN.out.set hne 0 (.int .i64 r1)).set hne 1 (.slice N n1.length nc)
        have z0 := Lib.hid (S5.cell (i := 0) rfl (o := 0) rfl)
        have z1 := Lib.hid (S5.cell (i := 0) rfl (o := 1) rfl)
        replace hN3 := Lib.hid hN3
        replace S5 := Lib.hid S5.below
        refine hK.out _ _ (hkeep.out _ S5.out) (fun hSf => ?_)
        clear hK hSe S4 hN x0 x1 y0 y1
        (try simp only [put_rules])
        (refine wpAnyH_take (i := 13) (v := ?_) rfl (by kernel_rfl) (by kernel_rfl) (by kernel_rfl) (fun _ _ _ h => hQ _ _ _ _ _ h) (Or.inl ⟨by rfl, ?_⟩) (by assumption) ?_; rotate_left; (focus (intro w hSw; (try dsimp only at hSw); go_simp; (try with_reducible rfl); done)); (try simp only [put_rules]))
        (refine wpAnyH_done (by kernel_rfl) ?_ _)
        clear hkeep hSf
        go_wp2_with fail
        go_meet
        exact ⟨wb.heap.size, N, nc, rfl, rfl, z0, z1, hN3, S5⟩
  case rest =>
    obtain ⟨wd, hwd⟩ : ∃ wd, wd = wc := ⟨_, rfl⟩
    subst hwd
    obtain ⟨db, N, nc, rfl, rfl, z0, z1, hN, hb⟩ := hcut
    clear mc hcl
    have hlt0 := World.block_lt_of_cell? _ _ c0
    have hlt1 := World.block_lt_of_cell? _ _ p0
    have hkeep : Hid (∀ W, Below wb.heap.size wb W → W.cell? ⟨W0.heap.size, 0, none⟩ = some (.int .i64 n) ∧ W.cell? ⟨W0.heap.size, 1, none⟩ = some (.slice (some ⟨cb, coff, none⟩) m cap) ∧ W.cell? ⟨lb, loff + j * 2, none⟩ = some (.int .i64 r2) ∧ W.cell? ⟨lb, loff + j * 2 + 1, none⟩ = some (.slice M2 n2.length mc2) ∧ W.cell? ⟨lb, loff + (m - 1) * 2, none⟩ = some (.int .i64 r3) ∧ W.cell? ⟨lb, loff + (m - 1) * 2 + 1, none⟩ = some (.slice M3 n3.length mc3)) := fun W hb =>
      ⟨((bcell hb).1 _ _ hlt0).trans c0, ((bcell hb).1 _ _ hlt0).trans c1, ((bcell hb).1 _ _ hlt1).trans p0, ((bcell hb).1 _ _ hlt1).trans p1, ((bcell hb).1 _ _ hlt1).trans q0, ((bcell hb).1 _ _ hlt1).trans q1⟩
    have hltd := World.block_lt_of_cell? _ _ z0.out
    have S2 := Lib.hid ((Sp.start wd).alloc_box #[.int .i64 r1, .slice N n1.length nc] 34)
    have zz0 := z0.out
    have zz1 := z1.out
    clear c0 c1 p0 p1 q0 q1
    go_upto_if 117 with fail
    go_cut [15] (fun t wx => t = .bool true ∧ ∃ N' nc', Hid (Sp wd wx [Box wd.heap.size 34 #[.int .i64 r2, .slice N' n2.length nc']]) ∧ Hid (NdAt wx N' n2))
    case first =>
      as_aux_lemma =>
        clear hR hRm hD hDm hZ hB1 hz hsm2 hZj hall hsat hds hM2 hM3 zz0 zz1
        by_cases hj0 : j = 0
        · have hjj : ¬ (0 : Int) < j := by omega
          obtain ⟨e1, e2⟩ := hfirst.out hj0
          subst e1
          subst e2
          have hN2 := Lib.hid (hN.out.grow S2.out.below)
          clear hj0
          go_wp2_with fail
          go_meet
          exact ⟨rfl, N, nc, S2, hN2⟩
        · have hjj : (0 : Int) < j := by omega
          obtain ⟨N2, nc2, a0, a1, a2⟩ := hprev.out hj0
          obtain ⟨i, hi⟩ : ∃ i, j - 1 = i := ⟨_, rfl⟩
          rw [hi] at a0 a1
          have hw : IntKind.i64.wrap ((j : Int) - 1) = (i : Int) := by rw [IntWalk.i64_in _ (by omega)]; omega
          have him : (i : Int) < m := by omega
          have hlta := World.block_lt_of_cell? _ _ a0
          have hkeep2 : Hid (∀ W, Below wd.heap.size wd W → W.cell? ⟨W0.heap.size, 0, none⟩ = some (.int .i64 n) ∧ W.cell? ⟨lb, loff + i * 2, none⟩ = some (.int .i64 r0) ∧ W.cell? ⟨lb, loff + i * 2 + 1, none⟩ = some (.slice N2 n0.length nc2) ∧ W.cell? ⟨db, 0, none⟩ = some (.int .i64 r1) ∧ W.cell? ⟨db, 1, none⟩ = some (.slice N n1.length nc)) := fun W hbW =>
            ⟨(hkeep.out W (btr hb.out hbW)).1, ((bcell (btr hb.out hbW)).1 _ _ hlta).trans a0, ((bcell (btr hb.out hbW)).1 _ _ hlta).trans a1, ((bcell hbW).1 _ _ hltd).trans z0.out, ((bcell hbW).1 _ _ hltd).trans z1.out⟩
          have hcall := Lib.hid (fun W (hbW : Below wd.heap.size wd W) => hand.out N2 N nc2 nc W (a2.grow (btr hb.out hbW)) (hN.out.grow hbW))
          clear a0 a1 a2 hprev hand hfirst hi hj0 hkeep
          go_wp2_with fail
          refine wp_region_held_lit (S := (fun w' => w'.cell? ⟨W0.heap.size, 0, none⟩ = some (.int .i64 n) ∧ w'.cell? ⟨lb, loff + i * 2, none⟩ = some (.int .i64 r0) ∧ w'.cell? ⟨lb, loff + i * 2 + 1, none⟩ = some (.slice N2 n0.length nc2) ∧ w'.cell? ⟨db, 0, none⟩ = some (.int .i64 r1) ∧ w'.cell? ⟨db, 1, none⟩ = some (.slice N n1.length nc))) 14 [false, false, false, false, false, false, false, false, false, false, false, false, false, false] (by kernel_rfl) (by kernel_rfl) (by kernel_rfl) ?_ ?_
          · exact hkeep2.out _ (bdr S2.out.below)
          intro hSc
          (refine wpAnyH_take (i := 0) (v := ?_) rfl (by kernel_rfl) (by kernel_rfl) (by kernel_rfl) (fun _ _ _ h => hQ _ _ _ _ _ h) (Or.inl ⟨by rfl, ?_⟩) (by assumption) ?_; rotate_left; (focus (intro w hSw; (try dsimp only at hSw); go_simp; (try with_reducible rfl); done)); (try simp only [put_rules]))
          (refine wpAnyH_take (i := 1) (v := ?_) rfl (by kernel_rfl) (by kernel_rfl) (by kernel_rfl) (fun _ _ _ h => hQ _ _ _ _ _ h) (Or.inl ⟨by rfl, ?_⟩) (by assumption) ?_; rotate_left; (focus (intro w hSw; (try dsimp only at hSw); go_simp; (try with_reducible rfl); done)); (try simp only [put_rules]))
          (refine wpAnyH_take (i := 2) (v := ?_) rfl (by kernel_rfl) (by kernel_rfl) (by kernel_rfl) (fun _ _ _ h => hQ _ _ _ _ _ h) (Or.inl ⟨by rfl, ?_⟩) (by assumption) ?_; rotate_left; (focus (intro w hSw; (try dsimp only at hSw); go_simp; (try with_reducible rfl); done)); (try simp only [put_rules]))
          (refine wpAnyH_take (i := 3) (v := ?_) rfl (by kernel_rfl) (by kernel_rfl) (by kernel_rfl) (fun _ _ _ h => hQ _ _ _ _ _ h) (Or.inl ⟨by rfl, ?_⟩) (by assumption) ?_; rotate_left; (focus (intro w hSw; (try dsimp only at hSw); go_simp; (try with_reducible rfl); done)); (try simp only [put_rules]))
          (refine wpAnyH_take (i := 4) (v := ?_) rfl (by kernel_rfl) (by kernel_rfl) (by kernel_rfl) (fun _ _ _ h => hQ _ _ _ _ _ h) (Or.inl ⟨by rfl, ?_⟩) (by assumption) ?_; rotate_left; (focus (intro w hSw; (try dsimp only at hSw); go_simp; (try with_reducible rfl); done)); (try simp only [put_rules]))
          (try rw [hw])
          (refine wpAnyH_take (i := 5) (v := ?_) rfl (by kernel_rfl) (by kernel_rfl) (by kernel_rfl) (fun _ _ _ h => hQ _ _ _ _ _ h) (Or.inl ⟨by rfl, ?_⟩) (by assumption) ?_; rotate_left; (focus (intro w hSw; (try dsimp only at hSw); go_simp; (try with_reducible rfl); done)); (try simp only [put_rules]))
          (refine wpAnyH_take (i := 6) (v := ?_) rfl (by kernel_rfl) (by kernel_rfl) (by kernel_rfl) (fun _ _ _ h => hQ _ _ _ _ _ h) (Or.inl ⟨by rfl, ?_⟩) (by assumption) ?_; rotate_left; (focus (intro w hSw; (try dsimp only at hSw); go_simp; (try with_reducible rfl); done)); (try simp only [put_rules]))
          (refine wpAnyH_take (i := 7) (v := ?_) rfl (by kernel_rfl) (by kernel_rfl) (by kernel_rfl) (fun _ _ _ h => hQ _ _ _ _ _ h) (Or.inl ⟨by rfl, ?_⟩) (by assumption) ?_; rotate_left; (focus (intro w hSw; (try dsimp only at hSw); go_simp; (try with_reducible rfl); done)); (try simp only [put_rules]))
          (refine wpAnyH_ready (rs := [8]) (by kernel_rfl) (by simp) ?_; refine AllReadyH.cons rfl (fun K hK => ?_) AllReadyH.nil)
          go_simp
          go_at_call 17
          refine (hcall.out _ (bdr S2.out.below)).mono ?_
          rintro e w3 ⟨N', nc', rfl, hN', hNf, hb3⟩
          have S3 := S2.out.drew.grow hb3
          have x0 := S3.cell (i := 0) rfl (o := 0) rfl
          have x1 := S3.cell (i := 0) rfl (o := 1) rfl
          have y0 := S3.frozen (i := 0) rfl 0
          have y1 := S3.frozen (i := 0) rfl 1
          have hk3 := hkeep2.out _ S3.below
          have hne : ∀ a, N' = some a → a.block ≠ wd.heap.size := fun a ha => by have := hNf a ha; simp at this; omega
          have S5 := (S3.store (i := 0) rfl 0 (.int .i64 r2)).store (i := 0) rfl 1 (.slice N' n2.length nc')
          have hN5 := Lib.hid ((hN'.set hne 0 (.int .i64 r2)).set hne 1 (.slice N' n2.length nc'))
          have hk5 := hkeep2.out _ S5.below
          have S6 : Hid (Sp wd _ [Box wd.heap.size 34 #[.int .i64 r2, .slice N' n2.length nc']]) := S5
          clear S2 S3 S5 hcall hNf hN' hne hb3
          go_wp2_with fail
          refine hK.out _ _ hk3 (fun hSd => ?_)
          clear hK hSc hk3
          (try simp only [put_rules])
          (refine wpAnyH_take (i := 9) (v := ?_) rfl (by kernel_rfl) (by kernel_rfl) (by kernel_rfl) (fun _ _ _ h => hQ _ _ _ _ _ h) (Or.inl ⟨by rfl, ?_⟩) (by assumption) ?_; rotate_left; (focus (intro w hSw; (try dsimp only at hSw); go_simp; (try with_reducible rfl); done)); (try simp only [put_rules]))
          (refine wpAnyH_take (i := 10) (v := ?_) rfl (by kernel_rfl) (by kernel_rfl) (by kernel_rfl) (fun _ _ _ h => hQ _ _ _ _ _ h) (Or.inl ⟨by rfl, ?_⟩) (by assumption) ?_; rotate_left; (focus (intro w hSw; (try dsimp only at hSw); go_simp; (try with_reducible rfl); done)); (try simp only [put_rules]))
          (refine wpAnyH_take (i := 11) (v := ?_) rfl (by kernel_rfl) (by kernel_rfl) (by kernel_rfl) (fun _ _ _ h => hQ _ _ _ _ _ h) (Or.inl ⟨by rfl, ?_⟩) (by assumption) ?_; rotate_left; (focus (intro w hSw; (try dsimp only at hSw); go_simp; (try with_reducible rfl); done)); (try simp only [put_rules]))
          (refine wpAnyH_ready (rs := [12]) (by kernel_rfl) (by simp) ?_; refine AllReadyH.cons rfl (fun K hK => ?_) AllReadyH.nil)
          go_simp
          refine hK.out _ _ hk5 (fun hSe => ?_)
          clear hK hSd hk5 x0 x1 y0 y1
          (try simp only [put_rules])
          (refine wpAnyH_take (i := 13) (v := ?_) rfl (by kernel_rfl) (by kernel_rfl) (by kernel_rfl) (fun _ _ _ h => hQ _ _ _ _ _ h) (Or.inl ⟨by rfl, ?_⟩) (by assumption) ?_; rotate_left; (focus (intro w hSw; (try dsimp only at hSw); go_simp; (try with_reducible rfl); done)); (try simp only [put_rules]))
          (refine wpAnyH_done (by kernel_rfl) ?_ _)
          clear hSe hkeep2
          go_wp2_with fail
          go_meet
          exact ⟨rfl, N', nc', S6, hN5⟩
    case rest =>
      obtain ⟨we, hwe⟩ : ∃ we, we = wc := ⟨_, rfl⟩
      subst hwe
      obtain ⟨rfl, N', nc', S3, hN3⟩ := hcut
      clear hprev hand hfirst z0 z1 zz0 zz1 hN S2 hltd hlt0 hlt1
      as_aux_lemma =>
        have hB3 := Lib.hid (btr hb.out S3.out.below)
        have d0 := (hkeep.out _ hB3.out).1
        have d1 := (hkeep.out _ hB3.out).2.1
        go_wp2_with fail
        refine (hall.out _ (Ty.row_grow hRm.out hB3.out)).mono ?_
        rintro e w4 ⟨N4, nc4, rfl, hN4, -, hb4⟩
        have S4 := (S3.out.grow hb4).alloc_box #[.int .i64 r3, .slice N4 n3.length nc4] 34
        have hB4 := Lib.hid (btr hb.out S4.below)
        replace hN4 := Lib.hid (hN4.grow (bal (bb w4) (.cells #[.int .i64 r3, .slice N4 n3.length nc4] 34)))
        replace hN3 := Lib.hid ((hN3.out.grow hb4).grow (bal (bb w4) (.cells #[.int .i64 r3, .slice N4 n3.length nc4] 34)))
        replace S4 := Lib.hid S4
        clear S3 hB3 d0 d1 hb4 hall
        have d0 := (hkeep.out _ hB4.out).1
        have d1 := (hkeep.out _ hB4.out).2.1
        go_wp2_with fail
        refine (hds.out _ (Ty.row_grow hRm.out hB4.out) (hDm.out.grow hB4.out)).mono ?_
        rintro e w5 ⟨rfl, hb5⟩
        have S5 := S4.out.grow hb5
        have hB5 := Lib.hid (btr hb.out S5.below)
        replace hN4 := Lib.hid (hN4.out.grow hb5)
        replace hN3 := Lib.hid (hN3.out.grow hb5)
        replace hM2 := Lib.hid (hM2.out.grow hB5.out)
        replace hM3 := Lib.hid (hM3.out.grow hB5.out)
        have hv1 := Lib.hid (fun W hbW => vDiagram_same r2 N' M2 nc' mc2 n2 W (hN3.out.grow hbW) (hM2.out.grow hbW) (by omega))
        have hv2 := Lib.hid (fun W hbW => vDiagram_same r3 N4 M3 nc4 mc3 n3 W (hN4.out.grow hbW) (hM3.out.grow hbW) (by omega))
        obtain ⟨zb, zoff, rfl, hzc⟩ := hZj.out
        have hw2 : IntKind.i64.wrap ((m : Int) - 1) = ((m - 1 : Nat) : Int) := by rw [IntWalk.i64_in _ (by omega)]; omega
        obtain ⟨p, hp⟩ : ∃ p, m - 1 = p := ⟨_, rfl⟩
        have hks : Hid (∀ W, Below w5.heap.size w5 W → W.cell? ⟨w4.heap.size, 0, none⟩ = some (.int .i64 r3) ∧ W.cell? ⟨w4.heap.size, 1, none⟩ = some (.slice N4 n3.length nc4) ∧ W.cell? ⟨wd.heap.size, 0, none⟩ = some (.int .i64 r2) ∧ W.cell? ⟨wd.heap.size, 1, none⟩ = some (.slice N' n2.length nc') ∧ W.cell? ⟨lb, loff + j * 2, none⟩ = some (.int .i64 r2) ∧ W.cell? ⟨lb, loff + j * 2 + 1, none⟩ = some (.slice M2 n2.length mc2) ∧ W.cell? ⟨lb, loff + p * 2, none⟩ = some (.int .i64 r3) ∧ W.cell? ⟨lb, loff + p * 2 + 1, none⟩ = some (.slice M3 n3.length mc3) ∧ W.cell? ⟨zb, zoff + j, none⟩ = some (.int .i64 (n2.length : Int))) := fun W hbW => by
          have s1 := S5.grow hbW
          have s2 := hkeep.out _ (hB5.out.trans (hbW.mono hB5.out.size))
          rw [hp] at s2
          exact ⟨s1.cell (i := 0) rfl (o := 0) rfl, s1.cell (i := 0) rfl (o := 1) rfl, s1.cell (i := 1) rfl (o := 0) rfl, s1.cell (i := 1) rfl (o := 1) rfl, s2.2.2.1, s2.2.2.2.1, s2.2.2.2.2.1, s2.2.2.2.2.2, ((bcell (hB5.out.trans (hbW.mono hB5.out.size))).1 _ _ (World.block_lt_of_cell? _ _ hzc)).trans hzc⟩
        rw [hp] at hw2
        have hpm : (p : Int) < m := by omega
        replace hp := Lib.hid hp
        replace S5 := Lib.hid S5
        clear S4 hB4 d0 d1 hb5 hds hN3 hN4 hM2 hM3 hD hDm hZ hZj hz hsm2 hzc
        go_wp2_with fail
        refine wp_region_held_lit (S := (fun w' => w'.cell? ⟨w4.heap.size, 0, none⟩ = some (.int .i64 r3) ∧ w'.cell? ⟨w4.heap.size, 1, none⟩ = some (.slice N4 n3.length nc4) ∧ w'.cell? ⟨wd.heap.size, 0, none⟩ = some (.int .i64 r2) ∧ w'.cell? ⟨wd.heap.size, 1, none⟩ = some (.slice N' n2.length nc') ∧ w'.cell? ⟨lb, loff + j * 2, none⟩ = some (.int .i64 r2) ∧ w'.cell? ⟨lb, loff + j * 2 + 1, none⟩ = some (.slice M2 n2.length mc2) ∧ w'.cell? ⟨lb, loff + p * 2, none⟩ = some (.int .i64 r3) ∧ w'.cell? ⟨lb, loff + p * 2 + 1, none⟩ = some (.slice M3 n3.length mc3) ∧ w'.cell? ⟨zb, zoff + j, none⟩ = some (.int .i64 (n2.length : Int)))) 54 [false, false, false, false, false, false, false, false, false, false, false, false, false, false, false, false, false, false, false, false, false, false, false, false, false, false, false, false, false, false, false, false, false, false, false, false, false, false, false, false, false, false, false, false, false, false, false, false, false, false, false, false, false, false] (by kernel_rfl) (by kernel_rfl) (by kernel_rfl) ?_ ?_
        · exact hks.out _ (bdr (bb _))
        intro hSc
        (refine wpAnyH_take (i := 0) (v := ?_) rfl (by kernel_rfl) (by kernel_rfl) (by kernel_rfl) (fun _ _ _ h => hQ _ _ _ _ _ h) (Or.inl ⟨by rfl, ?_⟩) (by assumption) ?_; rotate_left; (focus (intro w hSw; (try dsimp only at hSw); go_simp; (try with_reducible rfl); done)); (try simp only [put_rules]))
        (refine wpAnyH_take (i := 1) (v := ?_) rfl (by kernel_rfl) (by kernel_rfl) (by kernel_rfl) (fun _ _ _ h => hQ _ _ _ _ _ h) (Or.inl ⟨by rfl, ?_⟩) (by assumption) ?_; rotate_left; (focus (intro w hSw; (try dsimp only at hSw); go_simp; (try with_reducible rfl); done)); (try simp only [put_rules]))
        (refine wpAnyH_take (i := 2) (v := ?_) rfl (by kernel_rfl) (by kernel_rfl) (by kernel_rfl) (fun _ _ _ h => hQ _ _ _ _ _ h) (Or.inl ⟨by rfl, ?_⟩) (by assumption) ?_; rotate_left; (focus (intro w hSw; (try dsimp only at hSw); go_simp; (try with_reducible rfl); done)); (try simp only [put_rules]))
        (refine wpAnyH_take (i := 3) (v := ?_) rfl (by kernel_rfl) (by kernel_rfl) (by kernel_rfl) (fun _ _ _ h => hQ _ _ _ _ _ h) (Or.inl ⟨by rfl, ?_⟩) (by assumption) ?_; rotate_left; (focus (intro w hSw; (try dsimp only at hSw); go_simp; (try with_reducible rfl); done)); (try simp only [put_rules]))
        (refine wpAnyH_take (i := 4) (v := ?_) rfl (by kernel_rfl) (by kernel_rfl) (by kernel_rfl) (fun _ _ _ h => hQ _ _ _ _ _ h) (Or.inl ⟨by rfl, ?_⟩) (by assumption) ?_; rotate_left; (focus (intro w hSw; (try dsimp only at hSw); go_simp; (try with_reducible rfl); done)); (try simp only [put_rules]))
        (refine wpAnyH_take (i := 5) (v := ?_) rfl (by kernel_rfl) (by kernel_rfl) (by kernel_rfl) (fun _ _ _ h => hQ _ _ _ _ _ h) (Or.inl ⟨by rfl, ?_⟩) (by assumption) ?_; rotate_left; (focus (intro w hSw; (try dsimp only at hSw); go_simp; (try with_reducible rfl); done)); (try simp only [put_rules]))
        (refine wpAnyH_take (i := 6) (v := ?_) rfl (by kernel_rfl) (by kernel_rfl) (by kernel_rfl) (fun _ _ _ h => hQ _ _ _ _ _ h) (Or.inl ⟨by rfl, ?_⟩) (by assumption) ?_; rotate_left; (focus (intro w hSw; (try dsimp only at hSw); go_simp; (try with_reducible rfl); done)); (try simp only [put_rules]))
        (refine wpAnyH_take (i := 7) (v := ?_) rfl (by kernel_rfl) (by kernel_rfl) (by kernel_rfl) (fun _ _ _ h => hQ _ _ _ _ _ h) (Or.inl ⟨by rfl, ?_⟩) (by assumption) ?_; rotate_left; (focus (intro w hSw; (try dsimp only at hSw); go_simp; (try with_reducible rfl); done)); (try simp only [put_rules]))
        (refine wpAnyH_ready (rs := [8]) (by kernel_rfl) (by simp) ?_; refine AllReadyH.cons rfl (fun K hK => ?_) AllReadyH.nil)
        go_simp
        go_at_call 11
        refine (hv1.out _ (bdr (bb _))).mono ?_
        rintro e w6 ⟨rfl, hb6⟩
        have hB56 := Lib.hid (btr (bdr (bb w5)) hb6)
        clear hb6
        go_wp2_with fail
        refine hK.out _ _ (hks.out _ hB56.out) (fun hSd => ?_)
        clear hK hSc
        (try simp only [put_rules])
        (refine wpAnyH_take (i := 9) (v := ?_) rfl (by kernel_rfl) (by kernel_rfl) (by kernel_rfl) (fun _ _ _ h => hQ _ _ _ _ _ h) (Or.inl ⟨by rfl, ?_⟩) (by assumption) ?_; rotate_left; (focus (intro w hSw; (try dsimp only at hSw); go_simp; (try with_reducible rfl); done)); (try simp only [put_rules]))
        (refine wpAnyH_take (i := 10) (v := ?_) rfl (by kernel_rfl) (by kernel_rfl) (by kernel_rfl) (fun _ _ _ h => hQ _ _ _ _ _ h) (Or.inl ⟨by rfl, ?_⟩) (by assumption) ?_; rotate_left; (focus (intro w hSw; (try dsimp only at hSw); go_simp; (try with_reducible rfl); done)); (try simp only [put_rules]))
        (refine wpAnyH_take (i := 11) (v := ?_) rfl (by kernel_rfl) (by kernel_rfl) (by kernel_rfl) (fun _ _ _ h => hQ _ _ _ _ _ h) (Or.inl ⟨by rfl, ?_⟩) (by assumption) ?_; rotate_left; (focus (intro w hSw; (try dsimp only at hSw); go_simp; (try with_reducible rfl); done)); (try simp only [put_rules]))
        (refine wpAnyH_take (i := 12) (v := ?_) rfl (by kernel_rfl) (by kernel_rfl) (by kernel_rfl) (fun _ _ _ h => hQ _ _ _ _ _ h) (Or.inl ⟨by rfl, ?_⟩) (by assumption) ?_; rotate_left; (focus (intro w hSw; (try dsimp only at hSw); go_simp; (try with_reducible rfl); done)); (try simp only [put_rules]))
        (refine wpAnyH_take (i := 13) (v := ?_) rfl (by kernel_rfl) (by kernel_rfl) (by kernel_rfl) (fun _ _ _ h => hQ _ _ _ _ _ h) (Or.inl ⟨by rfl, ?_⟩) (by assumption) ?_; rotate_left; (focus (intro w hSw; (try dsimp only at hSw); go_simp; (try with_reducible rfl); done)); (try simp only [put_rules]))
        (refine wpAnyH_take (i := 14) (v := ?_) rfl (by kernel_rfl) (by kernel_rfl) (by kernel_rfl) (fun _ _ _ h => hQ _ _ _ _ _ h) (Or.inl ⟨by rfl, ?_⟩) (by assumption) ?_; rotate_left; (focus (intro w hSw; (try dsimp only at hSw); go_simp; (try with_reducible rfl); done)); (try simp only [put_rules]))
        (refine wpAnyH_take (i := 15) (v := ?_) rfl (by kernel_rfl) (by kernel_rfl) (by kernel_rfl) (fun _ _ _ h => hQ _ _ _ _ _ h) (Or.inl ⟨by rfl, ?_⟩) (by assumption) ?_; rotate_left; (focus (intro w hSw; (try dsimp only at hSw); go_simp; (try with_reducible rfl); done)); (try simp only [put_rules]))
        (refine wpAnyH_take (i := 16) (v := ?_) rfl (by kernel_rfl) (by kernel_rfl) (by kernel_rfl) (fun _ _ _ h => hQ _ _ _ _ _ h) (Or.inl ⟨by rfl, ?_⟩) (by assumption) ?_; rotate_left; (focus (intro w hSw; (try dsimp only at hSw); go_simp; (try with_reducible rfl); done)); (try simp only [put_rules]))
        (refine wpAnyH_take (i := 17) (v := ?_) rfl (by kernel_rfl) (by kernel_rfl) (by kernel_rfl) (fun _ _ _ h => hQ _ _ _ _ _ h) (Or.inl ⟨by rfl, ?_⟩) (by assumption) ?_; rotate_left; (focus (intro w hSw; (try dsimp only at hSw); go_simp; (try with_reducible rfl); done)); (try simp only [put_rules]))
        (refine wpAnyH_take (i := 18) (v := ?_) rfl (by kernel_rfl) (by kernel_rfl) (by kernel_rfl) (fun _ _ _ h => hQ _ _ _ _ _ h) (Or.inl ⟨by rfl, ?_⟩) (by assumption) ?_; rotate_left; (focus (intro w hSw; (try dsimp only at hSw); go_simp; (try with_reducible rfl); done)); (try simp only [put_rules]))
        (refine wpAnyH_take (i := 19) (v := ?_) rfl (by kernel_rfl) (by kernel_rfl) (by kernel_rfl) (fun _ _ _ h => hQ _ _ _ _ _ h) (Or.inl ⟨by rfl, ?_⟩) (by assumption) ?_; rotate_left; (focus (intro w hSw; (try dsimp only at hSw); go_simp; (try with_reducible rfl); done)); (try simp only [put_rules]))
        (refine wpAnyH_take (i := 20) (v := ?_) rfl (by kernel_rfl) (by kernel_rfl) (by kernel_rfl) (fun _ _ _ h => hQ _ _ _ _ _ h) (Or.inl ⟨by rfl, ?_⟩) (by assumption) ?_; rotate_left; (focus (intro w hSw; (try dsimp only at hSw); go_simp; (try with_reducible rfl); done)); (try simp only [put_rules]))
        (try rw [hw2])
        (refine wpAnyH_take (i := 21) (v := ?_) rfl (by kernel_rfl) (by kernel_rfl) (by kernel_rfl) (fun _ _ _ h => hQ _ _ _ _ _ h) (Or.inl ⟨by rfl, ?_⟩) (by assumption) ?_; rotate_left; (focus (intro w hSw; (try dsimp only at hSw); go_simp; (try with_reducible rfl); done)); (try simp only [put_rules]))
        (refine wpAnyH_take (i := 22) (v := ?_) rfl (by kernel_rfl) (by kernel_rfl) (by kernel_rfl) (fun _ _ _ h => hQ _ _ _ _ _ h) (Or.inl ⟨by rfl, ?_⟩) (by assumption) ?_; rotate_left; (focus (intro w hSw; (try dsimp only at hSw); go_simp; (try with_reducible rfl); done)); (try simp only [put_rules]))
        (refine wpAnyH_ready (rs := [23]) (by kernel_rfl) (by simp) ?_; refine AllReadyH.cons rfl (fun K hK => ?_) AllReadyH.nil)
        go_simp
        go_at_call 11
        refine (hv2.out _ hB56.out).mono ?_
        rintro e w7 ⟨rfl, hb7⟩
        have hB57 := Lib.hid (btr hB56.out hb7)
        clear hb7 hB56
        go_wp2_with fail
        refine hK.out _ _ (hks.out _ hB57.out) (fun hSe => ?_)
        clear hK hSd
        (try simp only [put_rules])
        (refine wpAnyH_take (i := 24) (v := ?_) rfl (by kernel_rfl) (by kernel_rfl) (by kernel_rfl) (fun _ _ _ h => hQ _ _ _ _ _ h) (Or.inl ⟨by rfl, ?_⟩) (by assumption) ?_; rotate_left; (focus (intro w hSw; (try dsimp only at hSw); go_simp; (try with_reducible rfl); done)); (try simp only [put_rules]))
        (refine wpAnyH_take (i := 25) (v := ?_) rfl (by kernel_rfl) (by kernel_rfl) (by kernel_rfl) (fun _ _ _ h => hQ _ _ _ _ _ h) (Or.inl ⟨by rfl, ?_⟩) (by assumption) ?_; rotate_left; (focus (intro w hSw; (try dsimp only at hSw); go_simp; (try with_reducible rfl); done)); (try simp only [put_rules]))
        (refine wpAnyH_take (i := 26) (v := ?_) rfl (by kernel_rfl) (by kernel_rfl) (by kernel_rfl) (fun _ _ _ h => hQ _ _ _ _ _ h) (Or.inl ⟨by rfl, ?_⟩) (by assumption) ?_; rotate_left; (focus (intro w hSw; (try dsimp only at hSw); go_simp; (try with_reducible rfl); done)); (try simp only [put_rules]))
        (refine wpAnyH_take (i := 27) (v := ?_) rfl (by kernel_rfl) (by kernel_rfl) (by kernel_rfl) (fun _ _ _ h => hQ _ _ _ _ _ h) (Or.inl ⟨by rfl, ?_⟩) (by assumption) ?_; rotate_left; (focus (intro w hSw; (try dsimp only at hSw); go_simp; (try with_reducible rfl); done)); (try simp only [put_rules]))
        (refine wpAnyH_take (i := 28) (v := ?_) rfl (by kernel_rfl) (by kernel_rfl) (by kernel_rfl) (fun _ _ _ h => hQ _ _ _ _ _ h) (Or.inl ⟨by rfl, ?_⟩) (by assumption) ?_; rotate_left; (focus (intro w hSw; (try dsimp only at hSw); go_simp; (try with_reducible rfl); done)); (try simp only [put_rules]))
        (refine wpAnyH_take (i := 29) (v := ?_) rfl (by kernel_rfl) (by kernel_rfl) (by kernel_rfl) (fun _ _ _ h => hQ _ _ _ _ _ h) (Or.inl ⟨by rfl, ?_⟩) (by assumption) ?_; rotate_left; (focus (intro w hSw; (try dsimp only at hSw); go_simp; (try with_reducible rfl); done)); (try simp only [put_rules]))
        (refine wpAnyH_take (i := 30) (v := ?_) rfl (by kernel_rfl) (by kernel_rfl) (by kernel_rfl) (fun _ _ _ h => hQ _ _ _ _ _ h) (Or.inl ⟨by rfl, ?_⟩) (by assumption) ?_; rotate_left; (focus (intro w hSw; (try dsimp only at hSw); go_simp; (try with_reducible rfl); done)); (try simp only [put_rules]))
        (refine wpAnyH_take (i := 31) (v := ?_) rfl (by kernel_rfl) (by kernel_rfl) (by kernel_rfl) (fun _ _ _ h => hQ _ _ _ _ _ h) (Or.inl ⟨by rfl, ?_⟩) (by assumption) ?_; rotate_left; (focus (intro w hSw; (try dsimp only at hSw); go_simp; (try with_reducible rfl); done)); (try simp only [put_rules]))
        (refine wpAnyH_take (i := 32) (v := ?_) rfl (by kernel_rfl) (by kernel_rfl) (by kernel_rfl) (fun _ _ _ h => hQ _ _ _ _ _ h) (Or.inl ⟨by rfl, ?_⟩) (by assumption) ?_; rotate_left; (focus (intro w hSw; (try dsimp only at hSw); go_simp; (try with_reducible rfl); done)); (try simp only [put_rules]))
        (refine wpAnyH_take (i := 33) (v := ?_) rfl (by kernel_rfl) (by kernel_rfl) (by kernel_rfl) (fun _ _ _ h => hQ _ _ _ _ _ h) (Or.inl ⟨by rfl, ?_⟩) (by assumption) ?_; rotate_left; (focus (intro w hSw; (try dsimp only at hSw); go_simp; (try with_reducible rfl); done)); (try simp only [put_rules]))
        (refine wpAnyH_take (i := 34) (v := ?_) rfl (by kernel_rfl) (by kernel_rfl) (by kernel_rfl) (fun _ _ _ h => hQ _ _ _ _ _ h) (Or.inl ⟨by rfl, ?_⟩) (by assumption) ?_; rotate_left; (focus (intro w hSw; (try dsimp only at hSw); go_simp; (try with_reducible rfl); done)); (try simp only [put_rules]))
        (refine wpAnyH_take (i := 35) (v := ?_) rfl (by kernel_rfl) (by kernel_rfl) (by kernel_rfl) (fun _ _ _ h => hQ _ _ _ _ _ h) (Or.inl ⟨by rfl, ?_⟩) (by assumption) ?_; rotate_left; (focus (intro w hSw; (try dsimp only at hSw); go_simp; (try with_reducible rfl); done)); (try simp only [put_rules]))
        (refine wpAnyH_take (i := 36) (v := ?_) rfl (by kernel_rfl) (by kernel_rfl) (by kernel_rfl) (fun _ _ _ h => hQ _ _ _ _ _ h) (Or.inl ⟨by rfl, ?_⟩) (by assumption) ?_; rotate_left; (focus (intro w hSw; (try dsimp only at hSw); go_simp; (try with_reducible rfl); done)); (try simp only [put_rules]))
        (refine wpAnyH_take (i := 37) (v := ?_) rfl (by kernel_rfl) (by kernel_rfl) (by kernel_rfl) (fun _ _ _ h => hQ _ _ _ _ _ h) (Or.inl ⟨by rfl, ?_⟩) (by assumption) ?_; rotate_left; (focus (intro w hSw; (try dsimp only at hSw); go_simp; (try with_reducible rfl); done)); (try simp only [put_rules]))
        (refine wpAnyH_take (i := 38) (v := ?_) rfl (by kernel_rfl) (by kernel_rfl) (by kernel_rfl) (fun _ _ _ h => hQ _ _ _ _ _ h) (Or.inl ⟨by rfl, ?_⟩) (by assumption) ?_; rotate_left; (focus (intro w hSw; (try dsimp only at hSw); go_simp; (try with_reducible rfl); done)); (try simp only [put_rules]))
        (refine wpAnyH_take (i := 39) (v := ?_) rfl (by kernel_rfl) (by kernel_rfl) (by kernel_rfl) (fun _ _ _ h => hQ _ _ _ _ _ h) (Or.inl ⟨by rfl, ?_⟩) (by assumption) ?_; rotate_left; (focus (intro w hSw; (try dsimp only at hSw); go_simp; (try with_reducible rfl); done)); (try simp only [put_rules]))
        (refine wpAnyH_take (i := 40) (v := ?_) rfl (by kernel_rfl) (by kernel_rfl) (by kernel_rfl) (fun _ _ _ h => hQ _ _ _ _ _ h) (Or.inl ⟨by rfl, ?_⟩) (by assumption) ?_; rotate_left; (focus (intro w hSw; (try dsimp only at hSw); go_simp; (try with_reducible rfl); done)); (try simp only [put_rules]))
        (refine wpAnyH_take (i := 41) (v := ?_) rfl (by kernel_rfl) (by kernel_rfl) (by kernel_rfl) (fun _ _ _ h => hQ _ _ _ _ _ h) (Or.inl ⟨by rfl, ?_⟩) (by assumption) ?_; rotate_left; (focus (intro w hSw; (try dsimp only at hSw); go_simp; (try with_reducible rfl); done)); (try simp only [put_rules]))
        (refine wpAnyH_take (i := 42) (v := ?_) rfl (by kernel_rfl) (by kernel_rfl) (by kernel_rfl) (fun _ _ _ h => hQ _ _ _ _ _ h) (Or.inl ⟨by rfl, ?_⟩) (by assumption) ?_; rotate_left; (focus (intro w hSw; (try dsimp only at hSw); go_simp; (try with_reducible rfl); done)); (try simp only [put_rules]))
        (refine wpAnyH_take (i := 43) (v := ?_) rfl (by kernel_rfl) (by kernel_rfl) (by kernel_rfl) (fun _ _ _ h => hQ _ _ _ _ _ h) (Or.inl ⟨by rfl, ?_⟩) (by assumption) ?_; rotate_left; (focus (intro w hSw; (try dsimp only at hSw); go_simp; (try with_reducible rfl); done)); (try simp only [put_rules]))
        (refine wpAnyH_take (i := 44) (v := ?_) rfl (by kernel_rfl) (by kernel_rfl) (by kernel_rfl) (fun _ _ _ h => hQ _ _ _ _ _ h) (Or.inl ⟨by rfl, ?_⟩) (by assumption) ?_; rotate_left; (focus (intro w hSw; (try dsimp only at hSw); go_simp; (try with_reducible rfl); done)); (try simp only [put_rules]))
        (refine wpAnyH_take (i := 45) (v := ?_) rfl (by kernel_rfl) (by kernel_rfl) (by kernel_rfl) (fun _ _ _ h => hQ _ _ _ _ _ h) (Or.inl ⟨by rfl, ?_⟩) (by assumption) ?_; rotate_left; (focus (intro w hSw; (try dsimp only at hSw); go_simp; (try with_reducible rfl); done)); (try simp only [put_rules]))
        (refine wpAnyH_take (i := 46) (v := ?_) rfl (by kernel_rfl) (by kernel_rfl) (by kernel_rfl) (fun _ _ _ h => hQ _ _ _ _ _ h) (Or.inl ⟨by rfl, ?_⟩) (by assumption) ?_; rotate_left; (focus (intro w hSw; (try dsimp only at hSw); go_simp; (try with_reducible rfl); done)); (try simp only [put_rules]))
        (refine wpAnyH_take (i := 47) (v := ?_) rfl (by kernel_rfl) (by kernel_rfl) (by kernel_rfl) (fun _ _ _ h => hQ _ _ _ _ _ h) (Or.inl ⟨by rfl, ?_⟩) (by assumption) ?_; rotate_left; (focus (intro w hSw; (try dsimp only at hSw); go_simp; (try with_reducible rfl); done)); (try simp only [put_rules]))
        (refine wpAnyH_take (i := 48) (v := ?_) rfl (by kernel_rfl) (by kernel_rfl) (by kernel_rfl) (fun _ _ _ h => hQ _ _ _ _ _ h) (Or.inl ⟨by rfl, ?_⟩) (by assumption) ?_; rotate_left; (focus (intro w hSw; (try dsimp only at hSw); go_simp; (try with_reducible rfl); done)); (try simp only [put_rules]))
        (refine wpAnyH_take (i := 49) (v := ?_) rfl (by kernel_rfl) (by kernel_rfl) (by kernel_rfl) (fun _ _ _ h => hQ _ _ _ _ _ h) (Or.inl ⟨by rfl, ?_⟩) (by assumption) ?_; rotate_left; (focus (intro w hSw; (try dsimp only at hSw); go_simp; (try with_reducible rfl); done)); (try simp only [put_rules]))
        (refine wpAnyH_take (i := 50) (v := ?_) rfl (by kernel_rfl) (by kernel_rfl) (by kernel_rfl) (fun _ _ _ h => hQ _ _ _ _ _ h) (Or.inl ⟨by rfl, ?_⟩) (by assumption) ?_; rotate_left; (focus (intro w hSw; (try dsimp only at hSw); go_simp; (try with_reducible rfl); done)); (try simp only [put_rules]))
        (refine wpAnyH_take (i := 51) (v := ?_) rfl (by kernel_rfl) (by kernel_rfl) (by kernel_rfl) (fun _ _ _ h => hQ _ _ _ _ _ h) (Or.inl ⟨by rfl, ?_⟩) (by assumption) ?_; rotate_left; (focus (intro w hSw; (try dsimp only at hSw); go_simp; (try with_reducible rfl); done)); (try simp only [put_rules]))
        (refine wpAnyH_take (i := 52) (v := ?_) rfl (by kernel_rfl) (by kernel_rfl) (by kernel_rfl) (fun _ _ _ h => hQ _ _ _ _ _ h) (Or.inl ⟨by rfl, ?_⟩) (by assumption) ?_; rotate_left; (focus (intro w hSw; (try dsimp only at hSw); go_simp; (try with_reducible rfl); done)); (try simp only [put_rules]))
        (refine wpAnyH_take (i := 53) (v := ?_) rfl (by kernel_rfl) (by kernel_rfl) (by kernel_rfl) (fun _ _ _ h => hQ _ _ _ _ _ h) (Or.inl ⟨by rfl, ?_⟩) (by assumption) ?_; rotate_left; (focus (intro w hSw; (try dsimp only at hSw); go_simp; (try with_reducible rfl); done)); (try simp only [put_rules]))
        (refine wpAnyH_done (by kernel_rfl) ?_ _)
        have S6 := S5.out.grow hB57.out
        have hB6 := Lib.hid (btr hb.out S6.below)
        have d0 := (hkeep.out _ hB6.out).1
        have d1 := (hkeep.out _ hB6.out).2.1
        replace S6 := Lib.hid S6
        clear S5 hB5 hB57 hSe hks hv1 hv2 hw2 hpm hp
        by_cases hr3 : r3 = 0
        · have hsat2 := hsat
          rw [show (!(r3 == 0)) = false by simp [hr3]] at hsat2
          clear hsat
          replace hsat2 := Lib.hid (hsat2.out _ (Ty.row_grow hRm.out hB6.out))
          clear hR hRm hkeep
          go_wp2_with fail
          refine hsat2.out.mono ?_
          rintro e w7 ⟨rfl, hb7⟩
          have S7 := S6.out.grow hb7
          have k0 := S7.cell (i := 0) rfl (o := 0) rfl
          rw [hr3] at k0
          have hBB := Lib.hid (btr hB1.out (btr hb.out S7.below))
          clear S6 S7 hB6 d0 d1 hb7 hsat2 hr3
          go_wp2_with fail
          go_meet
          exact hBB
        · have hsat2 := hsat
          rw [show (!(r3 == 0)) = true by simp [hr3]] at hsat2
          clear hsat
          replace hsat2 := Lib.hid (hsat2.out _ (Ty.row_grow hRm.out hB6.out))
          clear hR hRm hkeep
          go_wp2_with fail
          refine hsat2.out.mono ?_
          rintro e w7 ⟨rfl, hb7⟩
          have S7 := S6.out.grow hb7
          have k0 := S7.cell (i := 0) rfl (o := 0) rfl
          have hBB := Lib.hid (btr hB1.out (btr hb.out S7.below))
          clear S6 S7 hB6 d0 d1 hb7 hsat2
          go_wp2_with fail
          go_meet
          exact hBB
end Go.Proofs.Ytbemodacpimiiaa
