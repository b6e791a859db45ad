/- Contracts: RemoveEdge on both sides. Printed by gen_remove.py. -/
import Derived.Test.YtebhkfhdjdgokaaChQ
namespace Go.Proofs.Ytebhkfhdjdgokaa
open Go.RowKit

theorem Sp.drop2 {w0 w : World} {p q : Asn} {ps : List Asn} (h : Sp w0 w (p :: q :: ps)) : Sp w0 w (p :: ps) := h.swap.tail
theorem l1In_q {x a b : Int} {q : Bool} (h : inB x a b = q) (w : World) : Calls Try.prog 51 #[.int .i64 x, .int .i64 a, .int .i64 b] w fun e w' => e = .returned (.bool q) ∧ w = w' := h ▸ l1In_any x a b w
theorem within_q {x a b : Int} {q : Bool} (h : inB x a b = q) (w : World) : Calls Try.prog 53 #[.int .i64 x, .int .i64 a, .int .i64 b] w fun e w' => e = .returned (.bool q) ∧ w = w' := h ▸ within_any x a b w
theorem remove_zero {V : Int} {es : List (Int × Int)} {cs : List Int} {kk : Nat} (h : edgeB V es cs kk = true) : removeB V es cs kk 0 = (V, es.take kk ++ es.drop (kk + 1), cs, true) := by
  unfold removeB chargeB; rw [h]; rfl
theorem remove_one {V : Int} {es : List (Int × Int)} {cs : List Int} {kk x1 x2 : Nat} {y1 y2 : Int} {b : Bool} (h : edgeB V es cs kk = true) (hm : moveB V es cs kk = (V, es, turned cs x1 x2 y1 y2, b)) : removeB V es cs kk 1 = (V, es.take kk ++ es.drop (kk + 1), turned cs x1 x2 y1 y2, true) := by
  unfold moveB at hm
  rw [if_pos h] at hm
  have := congrArg (fun z => z.2.2.1) hm
  unfold removeB chargeB; rw [h, if_pos rfl]
  simp only at this
  rw [this]; rfl
theorem row_tm_ptr {wr : Bool} {w : World} {a : Option Addr} {c : Nat} {xs : List (Int × Int)} {F : List Nat} (h : tmTy.row wr w (.slice a xs.length c) xs F) (hne : xs ≠ []) : ∃ b o, a = some ⟨b, o, none⟩ := by
  obtain ⟨b, o, cap, cs, G, e, _⟩ := Ty.row_view h hne
  simp only [Value.slice.injEq] at e
  exact ⟨b, o, e.1⟩

theorem take_drop_all {wr : Bool} {w : World} {es : List (Int × Int)} {kk : Nat} (h : tmTy.all wr w (es.flatMap tmEnc) es []) (hK : kk < es.length) : tmTy.all wr w ((es.flatMap tmEnc).take (kk * 2) ++ (es.flatMap tmEnc).drop ((kk + 1) * 2)) (es.take kk ++ es.drop (kk + 1)) [] := by
  obtain ⟨_, hg, _⟩ := flat_all.1 h
  refine flat_all.2 ⟨?_, fun x hx => ?_, rfl⟩
  · rw [List.flatMap_append]
    have e1 : ((es.take kk).flatMap tmEnc).length = kk * 2 := by rw [flat_len (enc := tmEnc) (n := 2) (fun _ => rfl), List.length_take]; congr 1; omega
    have e2 : ((es.take (kk + 1)).flatMap tmEnc).length = (kk + 1) * 2 := by rw [flat_len (enc := tmEnc) (n := 2) (fun _ => rfl), List.length_take]; congr 1; omega
    congr 1
    · conv => lhs; rw [← List.take_append_drop kk es, List.flatMap_append, ← e1, List.take_left']
    · conv => lhs; rw [← List.take_append_drop (kk + 1) es, List.flatMap_append, ← e2, List.drop_left']
  · rcases List.mem_append.1 hx with h | h
    · exact hg x (List.mem_of_mem_take h)
    · exact hg x (List.mem_of_mem_drop h)

set_option maxRecDepth 100000 in
set_option maxHeartbeats 8000000 in
theorem specRemoveEdge_any (V k value : Int) (v u : Value) (es : List (Int × Int)) (cs : List Int) (F G : List Nat) (w : World) (hx : tmTy.row false w v es F) (hy : Ty.int.row false w u cs G) :
    Calls Try.prog 19 #[.agg #[.int .i64 V, v, u], .int .i64 k, .int .i64 value] w (MovePost w (removeB V es cs k value)) := by
  obtain ⟨a, c, rfl, hca, _⟩ := Ty.row_len hx
  obtain ⟨ua, uc, rfl, _, _⟩ := Ty.row_len hy
  have S0 := (((Sp.start w).alloc_box #[.int .i64 V, .slice a es.length c, .slice ua cs.length uc] 35).alloc_box #[.int .i64 0, .slice none 0 0, .slice none 0 0] 35)
  simp only [World.size_alloc] at S0
  replace S0 := Lib.hid S0
  have hxr := Lib.hid hx
  have hyr := Lib.hid hy
  cases hq : edgeB V es cs k
  · rw [remove_no (by rw [hq]; rfl)]
    go_enter Try.func19, Try.ntmps19
    go_wp2_with fail
    refine (l27Edge_any V k _ _ es cs _ _ _ (Ty.row_below hxr.out S0.out.below (Ty.row_lt hxr.out)) (Ty.row_below hyr.out S0.out.below (Ty.row_lt hyr.out))).mono ?_
    rw [hq]
    rintro e w1 ⟨rfl, hb1⟩
    have S1 := Lib.hid (S0.out.grow hb1)
    clear S0 hb1 hx hy
    have j0 := S1.out.cell (i := 0) rfl (o := 0) rfl
    have j1 := S1.out.cell (i := 0) rfl (o := 1) rfl
    have j2 := S1.out.cell (i := 0) rfl (o := 2) rfl
    have p0 := S1.out.frozen (i := 0) rfl 0
    have p1 := S1.out.frozen (i := 0) rfl 1
    have p2 := S1.out.frozen (i := 0) rfl 2
    have SZ := Lib.hid (((S1.out.store (i := 0) rfl 0 (.int .i64 0)).store (i := 0) rfl 1 (.slice none 0 0)).store (i := 0) rfl 2 (.slice none 0 0))
    go_wp2_with fail
    exact bodyPost_ret (v := .tuple #[.agg #[.int .i64 0, .slice none 0 0, .slice none 0 0], .bool false]) (by simp [results, Try.results19, go_sem, j0, j1, j2]) rfl ⟨_, _, rfl, SZ.out.nils⟩
  cases hv : inB value 0 1
  · rw [remove_no (by rw [hv]; simp)]
    go_enter Try.func19, Try.ntmps19
    go_wp2_with fail
    refine (l27Edge_any V _ _ _ es cs _ _ _ (Ty.row_below hxr.out S0.out.below (Ty.row_lt hxr.out)) (Ty.row_below hyr.out S0.out.below (Ty.row_lt hyr.out))).mono ?_
    rw [hq]
    rintro e w1 ⟨rfl, hb1⟩
    have S1 := S0.out.grow hb1
    have c0 := S1.cell (i := 1) rfl (o := 0) rfl
    have c1 := S1.cell (i := 1) rfl (o := 1) rfl
    have c2 := S1.cell (i := 1) rfl (o := 2) rfl
    replace S1 := Lib.hid S1
    clear S0 hb1 hx hy
    go_wp2_with fail
    (refine (l1In_q hv _).mono ?_; rintro e w9 ⟨rfl, rfl⟩)
    clear c0 c1 c2
    have j0 := S1.out.cell (i := 0) rfl (o := 0) rfl
    have j1 := S1.out.cell (i := 0) rfl (o := 1) rfl
    have j2 := S1.out.cell (i := 0) rfl (o := 2) rfl
    have p0 := S1.out.frozen (i := 0) rfl 0
    have p1 := S1.out.frozen (i := 0) rfl 1
    have p2 := S1.out.frozen (i := 0) rfl 2
    have SZ := Lib.hid (((S1.out.store (i := 0) rfl 0 (.int .i64 0)).store (i := 0) rfl 1 (.slice none 0 0)).store (i := 0) rfl 2 (.slice none 0 0))
    go_wp2_with fail
    exact bodyPost_ret (v := .tuple #[.agg #[.int .i64 0, .slice none 0 0, .slice none 0 0], .bool false]) (by simp [results, Try.results19, go_sem, j0, j1, j2]) rfl ⟨_, _, rfl, SZ.out.nils⟩
  obtain ⟨kk, x1, x2, y1, y2, hK, h12, hx2, rfl, he, e1, e2, z1, z2, hm, l1, l2, _, _⟩ := edge_facts hq
  have r0 := remove_zero hq
  have r1 := remove_one hq hm
  have hys2 : kk + (es.length - (kk + 1)) = (es.take kk ++ es.drop (kk + 1)).length := by rw [List.length_append, List.length_take, List.length_drop]; omega
  have hys3 : ∀ w', tmTy.all true w' (es.flatMap tmEnc) es [] → tmTy.all true w' ((es.flatMap tmEnc).take (kk * 2) ++ (es.flatMap tmEnc).drop ((kk + 1) * 2)) (es.take kk ++ es.drop (kk + 1)) [] := fun w' h => take_drop_all h hK
  obtain ⟨ys, hys⟩ : ∃ ys, ys = es.take kk ++ es.drop (kk + 1) := ⟨_, rfl⟩
  rw [← hys] at r0 r1 hys2
  simp only [← hys] at hys3
  replace r0 := Lib.hid r0
  replace r1 := Lib.hid r1
  replace hys := Lib.hid hys
  replace hys2 := Lib.hid hys2
  replace hys3 := Lib.hid hys3
  have hne : es ≠ [] := fun e => by subst e; simp at hK
  replace he := Lib.hid he
  replace e1 := Lib.hid e1
  replace e2 := Lib.hid e2
  have hkw : IntKind.i64.wrap ((kk : Int) + 1) = (kk : Int) + 1 := IntWalk.i64_in _ (by omega)
  have q1 : kk ≤ c := by omega
  have q2 : kk + 1 ≤ es.length := by omega
  clear hm hne
  rcases (show value = 0 ∨ value = 1 by have := inB_true.1 hv; omega) with rfl | rfl
  · rw [r0.out]
    go_enter Try.func19, Try.ntmps19
    go_wp2_with fail
    refine (l27Edge_any V _ _ _ es cs _ _ _ (Ty.row_below hxr.out S0.out.below (Ty.row_lt hxr.out)) (Ty.row_below hyr.out S0.out.below (Ty.row_lt hyr.out))).mono ?_
    rw [hq]
    rintro e w1 ⟨rfl, hb1⟩
    have S1 := S0.out.grow hb1
    have c0 := S1.cell (i := 1) rfl (o := 0) rfl
    have c1 := S1.cell (i := 1) rfl (o := 1) rfl
    have c2 := S1.cell (i := 1) rfl (o := 2) rfl
    replace S1 := Lib.hid S1
    clear S0 hb1 hx hy
    go_wp2_with fail
    (refine (l1In_q hv _).mono ?_; rintro e w9 ⟨rfl, rfl⟩)
    go_wp2_with fail
    refine (l27Own_any V _ _ es cs _ _ _ (Ty.row_below hxr.out S1.out.below (Ty.row_lt hxr.out)) (Ty.row_below hyr.out S1.out.below (Ty.row_lt hyr.out)) (by omega) (by omega)).mono ?_
    rintro e w2 ⟨v2, u2, rfl, T2⟩
    obtain ⟨_, tr2⟩ := T2.row_at (i := 0) rfl
    obtain ⟨_, ti2⟩ := T2.row_at (i := 1) rfl
    obtain ⟨va2, vc2, rfl, _, _⟩ := Ty.row_len tr2
    obtain ⟨vb2, vd2, rfl, _, _⟩ := Ty.row_len ti2
    have S2 := ((S1.out.seq T2).alloc_box #[.int .i64 V, .slice va2 es.length vc2, .slice vb2 cs.length vd2] 35)
    clear S1 T2 tr2 ti2 c0 c1 c2
    replace S2 := Lib.hid S2
    go_wp2_with fail
    have S6 := S2.out.drew
    have b3 := S6.cell (i := 4) rfl (o := 1) rfl
    replace S6 := Lib.hid S6
    clear S2
    obtain ⟨i0, hi, hz0, hz1, hz2⟩ := info_parts infoPair
    obtain ⟨A, cA, eA, srcE, allE⟩ := row_src_tm hxr.out
    simp only [Value.slice.injEq] at eA
    obtain ⟨rfl, _, rfl⟩ := eA
    obtain ⟨bA, oA, rfl⟩ := row_tm_ptr hxr.out (fun e => by subst e; simp at hK)
    have sTo := Lib.hid (srcE.to (k := kk) (by omega))
    have sFr := Lib.hid (srcE.from (k := kk + 1) (cap := c) (by omega) hca)
    have aTo := Lib.hid (show ∀ u ∈ (es.flatMap tmEnc).take (kk * 2), u.oneCell' = true from fun u hu => flat_one es u (List.mem_of_mem_take hu))
    have aFr := Lib.hid (show ∀ u ∈ (es.flatMap tmEnc).drop ((kk + 1) * 2), u.oneCell' = true from fun u hu => flat_one es u (List.mem_of_mem_drop hu))
    have hrow := Lib.hid (fun w' => hys3.out w' (allE w'))
    replace srcE := Lib.hid srcE
    replace allE := Lib.hid allE
    refine wp_region_tail_lit (S := (fun w' => w'.cell? ⟨w.heap.size, 1, none⟩ = some (.slice (some ⟨bA, oA, none⟩) es.length c))) 12 [false, false, false, false, false, false, false, false, false, false, false, false, false, false] (by kernel_rfl) (by kernel_rfl) (by kernel_rfl) ?_ ?_
    · exact b3
    intro hS
    (refine walkT_take (i := 1) (v := ?_) rfl (by kernel_rfl) (by decide) (by kernel_rfl) (by kernel_rfl) (fun _ _ _ h => h) (Or.inl ⟨by rfl, ?_⟩) (by assumption) ?_; rotate_left; (focus (intro w hSw; (try dsimp only at hSw); go_simp; (try with_reducible rfl); done)); (try simp only [put_rules]))
    (refine walkT_take (i := 2) (v := ?_) rfl (by kernel_rfl) (by decide) (by kernel_rfl) (by kernel_rfl) (fun _ _ _ h => h) (Or.inl ⟨by rfl, ?_⟩) (by assumption) ?_; rotate_left; (focus (intro w hSw; (try dsimp only at hSw); go_simp; (try with_reducible rfl); done)); (try simp only [put_rules]))
    (refine walkT_take (i := 3) (v := ?_) rfl (by kernel_rfl) (by decide) (by kernel_rfl) (by kernel_rfl) (fun _ _ _ h => h) (Or.inl ⟨by rfl, ?_⟩) (by assumption) ?_; rotate_left; (focus (intro w hSw; (try dsimp only at hSw); go_simp; (try with_reducible rfl); done)); (try simp only [put_rules]))
    (refine walkT_take (i := 4) (v := .slice _ kk c) rfl (by kernel_rfl) (by decide) (by kernel_rfl) (by kernel_rfl) (fun _ _ _ h => h) (Or.inl ⟨by rfl, fun _ _ => exec_slice_to rfl rfl rfl Try.underlying30 hi q1⟩) (by assumption) ?_; (try simp only [put_rules]))
    (refine walkT_take (i := 6) (v := ?_) rfl (by kernel_rfl) (by decide) (by kernel_rfl) (by kernel_rfl) (fun _ _ _ h => h) (Or.inl ⟨by rfl, ?_⟩) (by assumption) ?_; rotate_left; (focus (intro w hSw; (try dsimp only at hSw); go_simp; (try with_reducible rfl); done)); (try simp only [put_rules]))
    (refine walkT_take (i := 7) (v := ?_) rfl (by kernel_rfl) (by decide) (by kernel_rfl) (by kernel_rfl) (fun _ _ _ h => h) (Or.inl ⟨by rfl, ?_⟩) (by assumption) ?_; rotate_left; (focus (intro w hSw; (try dsimp only at hSw); go_simp; (try with_reducible rfl); done)); (try simp only [put_rules]))
    (refine walkT_take (i := 8) (v := ?_) rfl (by kernel_rfl) (by decide) (by kernel_rfl) (by kernel_rfl) (fun _ _ _ h => h) (Or.inl ⟨by rfl, ?_⟩) (by assumption) ?_; rotate_left; (focus (intro w hSw; (try dsimp only at hSw); go_simp; (try with_reducible rfl); done)); (try simp only [put_rules]))
    (refine walkT_take (i := 9) (v := ?_) rfl (by kernel_rfl) (by decide) (by kernel_rfl) (by kernel_rfl) (fun _ _ _ h => h) (Or.inl ⟨by rfl, ?_⟩) (by assumption) ?_; rotate_left; (focus (intro w hSw; (try dsimp only at hSw); go_simp; (try with_reducible rfl); done)); (try simp only [put_rules]))
    (refine walkT_take (i := 10) (v := .slice (cutA _ c (kk + 1) 2) (es.length - (kk + 1)) (c - (kk + 1))) rfl (by kernel_rfl) (by decide) (by kernel_rfl) (by kernel_rfl) (fun _ _ _ h => h) (Or.inl ⟨by rfl, fun _ _ => exec_slice_from (k := kk + 1) rfl rfl rfl Try.underlying30 hi hz1 q2⟩) (by assumption) ?_; (try simp only [put_rules]))
    (refine walkT_ready (rs := [0]) (by kernel_rfl) (by simp) (by decide) ?_; refine AllT.cons rfl (fun K hK0 => ?_) AllT.nil)
    go_simp
    have S7 := S6.out.own_made 85 2
    (try simp only [World.size_alloc, drew_size, World.size_setCell] at S7)
    have d3 := S7.cell (i := 5) rfl (o := 1) rfl
    replace S7 := Lib.hid S7
    clear S6 b3
    refine hK0.out _ _ d3 (fun hS1 => ?_)
    clear hK0 d3
    (try simp only [put_rules])
    (refine walkT_ready (rs := [5]) (by kernel_rfl) (by simp) (by decide) ?_; refine AllT.cons rfl (fun K hK0 => ?_) AllT.nil)
    (refine step_append_src rfl _ _ rfl Try.underlying30 hi hz0 hz1 hz2 rfl (by decide) _ 0 _ rfl (S7.out.own (i := 0) rfl) _ kk c _ rfl (sTo.out.grow S7.out.below) aTo.out (by unfold maxLen; omega) (by omega) ?_; intro vE wE hownE hgE hatE)
    have S8 := S7.out.own_push (i := 0) rfl (bb _) hownE hgE hatE
    obtain ⟨aE, cE, rfl⟩ := owns_form hownE
    rw [Nat.zero_add, List.nil_append] at S8
    clear hownE hgE hatE
    simp only [Nat.zero_add]
    have d3 := S8.cell (i := 5) rfl (o := 1) rfl
    replace S8 := Lib.hid S8
    clear S7
    refine hK0.out _ _ d3 (fun hS2 => ?_)
    clear hK0 d3
    (try simp only [put_rules])
    (refine walkT_ready (rs := [11]) (by kernel_rfl) (by simp) (by decide) ?_; refine AllT.cons rfl (fun K hK0 => ?_) AllT.nil)
    (refine step_append_src rfl _ _ rfl Try.underlying30 hi hz0 hz1 hz2 rfl (by decide) _ kk _ rfl (S8.out.own (i := 0) rfl) _ (es.length - (kk + 1)) (c - (kk + 1)) _ rfl (sFr.out.grow S8.out.below) aFr.out (by unfold maxLen; omega) (by omega) ?_; intro vH wH hownH hgH hatH)
    have S9 := S8.out.own_push (i := 0) rfl (bb _) hownH hgH hatH
    obtain ⟨aH, cH, rfl⟩ := owns_form hownH
    clear hownH hgH hatH
    rw [hys2.out] at S9 ⊢
    have d3 := S9.cell (i := 5) rfl (o := 1) rfl
    have S10 := owns_row (T := tmTy) (i := 0) S9 rfl rfl (by decide) (hrow.out _)
    have j1 := S10.cell (i := 1) rfl (o := 1) rfl
    have p1 := S10.frozen (i := 1) rfl 1
    have S11 := S10.store (i := 1) rfl 1 (.slice aH ys.length cH)
    replace S11 := Lib.hid S11
    clear S8 S9 S10
    refine hK0.out _ _ d3 (fun hS3 => ?_)
    clear hK0 d3
    (try simp only [put_rules])
    (refine walkT_done (by kernel_rfl) ?_)
    simp only [List.drop_succ_cons, List.drop_zero]
    have k0 := S11.out.cell (i := 1) rfl (o := 0) rfl
    have k1 := S11.out.cell (i := 1) rfl (o := 1) rfl
    have k2 := S11.out.cell (i := 1) rfl (o := 2) rfl
    have m0 := S11.out.cell (i := 4) rfl (o := 0) rfl
    have m1 := S11.out.cell (i := 4) rfl (o := 1) rfl
    have m2 := S11.out.cell (i := 4) rfl (o := 2) rfl
    have n0 := S11.out.frozen (i := 4) rfl 0
    have n1 := S11.out.frozen (i := 4) rfl 1
    have n2 := S11.out.frozen (i := 4) rfl 2
    have SF := Lib.hid (((S11.out.store (i := 4) rfl 0 (.int .i64 V)).store (i := 4) rfl 1 (.slice aH ys.length cH)).store (i := 4) rfl 2 (.slice vb2 cs.length vd2))
    clear S11
    go_wp2_with fail
    exact bodyPost_ret (v := .tuple #[.agg #[.int .i64 V, .slice aH ys.length cH, .slice vb2 cs.length vd2], .bool true]) (by simp [results, Try.results19, go_sem, m0, m1, m2]) rfl ⟨_, _, rfl, SF.out.drop2.drop2.front (qs := [_, _])⟩
  · rw [r1.out]
    go_enter Try.func19, Try.ntmps19
    go_wp2_with fail
    refine (l27Edge_any V _ _ _ es cs _ _ _ (Ty.row_below hxr.out S0.out.below (Ty.row_lt hxr.out)) (Ty.row_below hyr.out S0.out.below (Ty.row_lt hyr.out))).mono ?_
    rw [hq]
    rintro e w1 ⟨rfl, hb1⟩
    have S1 := S0.out.grow hb1
    have c0 := S1.cell (i := 1) rfl (o := 0) rfl
    have c1 := S1.cell (i := 1) rfl (o := 1) rfl
    have c2 := S1.cell (i := 1) rfl (o := 2) rfl
    replace S1 := Lib.hid S1
    clear S0 hb1 hx hy
    go_wp2_with fail
    (refine (l1In_q hv _).mono ?_; rintro e w9 ⟨rfl, rfl⟩)
    go_wp2_with fail
    refine (l27Own_any V _ _ es cs _ _ _ (Ty.row_below hxr.out S1.out.below (Ty.row_lt hxr.out)) (Ty.row_below hyr.out S1.out.below (Ty.row_lt hyr.out)) (by omega) (by omega)).mono ?_
    rintro e w2 ⟨v2, u2, rfl, T2⟩
    obtain ⟨_, tr2⟩ := T2.row_at (i := 0) rfl
    obtain ⟨_, ti2⟩ := T2.row_at (i := 1) rfl
    obtain ⟨va2, vc2, rfl, _, _⟩ := Ty.row_len tr2
    obtain ⟨vb2, vd2, rfl, _, _⟩ := Ty.row_len ti2
    have S2 := ((S1.out.seq T2).alloc_box #[.int .i64 V, .slice va2 es.length vc2, .slice vb2 cs.length vd2] 35)
    have c3 := S2.cell (i := 4) rfl (o := 0) rfl
    have c4 := S2.cell (i := 4) rfl (o := 1) rfl
    have c5 := S2.cell (i := 4) rfl (o := 2) rfl
    replace S2 := Lib.hid S2
    clear S1 T2 tr2 ti2 c0 c1 c2
    go_wp2_with fail
    refine (l27Flip_any V _ _ es cs _ _ _ (Ty.row_below hxr.out S2.out.below (Ty.row_lt hxr.out)) (Ty.row_below hyr.out S2.out.below (Ty.row_lt hyr.out)) (by omega) (by omega) kk x1 x2 y1 y2 hK he.out h12 hx2 e1.out e2.out z1 z2).mono ?_
    rintro e w4 ⟨v4, u4, rfl, T4⟩
    obtain ⟨_, tr4⟩ := T4.row_at (i := 0) rfl
    obtain ⟨_, ti4⟩ := T4.row_at (i := 1) rfl
    obtain ⟨va4, vc4, rfl, _, _⟩ := Ty.row_len tr4
    obtain ⟨vb4, vd4, rfl, _, _⟩ := Ty.row_len ti4
    have S4 := S2.out.seq T4
    generalize (turned cs x1 x2 y1 y2) = ts at *
    have p0 := S4.frozen (i := 2) rfl 0
    have p1 := S4.frozen (i := 2) rfl 1
    have p2 := S4.frozen (i := 2) rfl 2
    have j0 := S4.cell (i := 2) rfl (o := 0) rfl
    have j1 := S4.cell (i := 2) rfl (o := 1) rfl
    have j2 := S4.cell (i := 2) rfl (o := 2) rfl
    have S5 := ((S4.store (i := 2) rfl 0 (.int .i64 V)).store (i := 2) rfl 1 (.slice va4 es.length vc4)).store (i := 2) rfl 2 (.slice vb4 ts.length vd4)
    clear S2 S4 T4 tr4 ti4 c3 c4 c5
    replace S5 := Lib.hid S5
    go_wp2_with fail
    clear p0 p1 p2 j0 j1 j2
    have S6 := S5.out.drew
    have b3 := S6.cell (i := 6) rfl (o := 1) rfl
    replace S6 := Lib.hid S6
    clear S5
    obtain ⟨i0, hi, hz0, hz1, hz2⟩ := info_parts infoPair
    obtain ⟨A, cA, eA, srcE, allE⟩ := row_src_tm hxr.out
    simp only [Value.slice.injEq] at eA
    obtain ⟨rfl, _, rfl⟩ := eA
    obtain ⟨bA, oA, rfl⟩ := row_tm_ptr hxr.out (fun e => by subst e; simp at hK)
    have sTo := Lib.hid (srcE.to (k := kk) (by omega))
    have sFr := Lib.hid (srcE.from (k := kk + 1) (cap := c) (by omega) hca)
    have aTo := Lib.hid (show ∀ u ∈ (es.flatMap tmEnc).take (kk * 2), u.oneCell' = true from fun u hu => flat_one es u (List.mem_of_mem_take hu))
    have aFr := Lib.hid (show ∀ u ∈ (es.flatMap tmEnc).drop ((kk + 1) * 2), u.oneCell' = true from fun u hu => flat_one es u (List.mem_of_mem_drop hu))
    have hrow := Lib.hid (fun w' => hys3.out w' (allE w'))
    replace srcE := Lib.hid srcE
    replace allE := Lib.hid allE
    refine wp_region_tail_lit (S := (fun w' => w'.cell? ⟨w.heap.size, 1, none⟩ = some (.slice (some ⟨bA, oA, none⟩) es.length c))) 12 [false, false, false, false, false, false, false, false, false, false, false, false, false, false] (by kernel_rfl) (by kernel_rfl) (by kernel_rfl) ?_ ?_
    · exact b3
    intro hS
    (refine walkT_take (i := 1) (v := ?_) rfl (by kernel_rfl) (by decide) (by kernel_rfl) (by kernel_rfl) (fun _ _ _ h => h) (Or.inl ⟨by rfl, ?_⟩) (by assumption) ?_; rotate_left; (focus (intro w hSw; (try dsimp only at hSw); go_simp; (try with_reducible rfl); done)); (try simp only [put_rules]))
    (refine walkT_take (i := 2) (v := ?_) rfl (by kernel_rfl) (by decide) (by kernel_rfl) (by kernel_rfl) (fun _ _ _ h => h) (Or.inl ⟨by rfl, ?_⟩) (by assumption) ?_; rotate_left; (focus (intro w hSw; (try dsimp only at hSw); go_simp; (try with_reducible rfl); done)); (try simp only [put_rules]))
    (refine walkT_take (i := 3) (v := ?_) rfl (by kernel_rfl) (by decide) (by kernel_rfl) (by kernel_rfl) (fun _ _ _ h => h) (Or.inl ⟨by rfl, ?_⟩) (by assumption) ?_; rotate_left; (focus (intro w hSw; (try dsimp only at hSw); go_simp; (try with_reducible rfl); done)); (try simp only [put_rules]))
    (refine walkT_take (i := 4) (v := .slice _ kk c) rfl (by kernel_rfl) (by decide) (by kernel_rfl) (by kernel_rfl) (fun _ _ _ h => h) (Or.inl ⟨by rfl, fun _ _ => exec_slice_to rfl rfl rfl Try.underlying30 hi q1⟩) (by assumption) ?_; (try simp only [put_rules]))
    (refine walkT_take (i := 6) (v := ?_) rfl (by kernel_rfl) (by decide) (by kernel_rfl) (by kernel_rfl) (fun _ _ _ h => h) (Or.inl ⟨by rfl, ?_⟩) (by assumption) ?_; rotate_left; (focus (intro w hSw; (try dsimp only at hSw); go_simp; (try with_reducible rfl); done)); (try simp only [put_rules]))
    (refine walkT_take (i := 7) (v := ?_) rfl (by kernel_rfl) (by decide) (by kernel_rfl) (by kernel_rfl) (fun _ _ _ h => h) (Or.inl ⟨by rfl, ?_⟩) (by assumption) ?_; rotate_left; (focus (intro w hSw; (try dsimp only at hSw); go_simp; (try with_reducible rfl); done)); (try simp only [put_rules]))
    (refine walkT_take (i := 8) (v := ?_) rfl (by kernel_rfl) (by decide) (by kernel_rfl) (by kernel_rfl) (fun _ _ _ h => h) (Or.inl ⟨by rfl, ?_⟩) (by assumption) ?_; rotate_left; (focus (intro w hSw; (try dsimp only at hSw); go_simp; (try with_reducible rfl); done)); (try simp only [put_rules]))
    (refine walkT_take (i := 9) (v := ?_) rfl (by kernel_rfl) (by decide) (by kernel_rfl) (by kernel_rfl) (fun _ _ _ h => h) (Or.inl ⟨by rfl, ?_⟩) (by assumption) ?_; rotate_left; (focus (intro w hSw; (try dsimp only at hSw); go_simp; (try with_reducible rfl); done)); (try simp only [put_rules]))
    (refine walkT_take (i := 10) (v := .slice (cutA _ c (kk + 1) 2) (es.length - (kk + 1)) (c - (kk + 1))) rfl (by kernel_rfl) (by decide) (by kernel_rfl) (by kernel_rfl) (fun _ _ _ h => h) (Or.inl ⟨by rfl, fun _ _ => exec_slice_from (k := kk + 1) rfl rfl rfl Try.underlying30 hi hz1 q2⟩) (by assumption) ?_; (try simp only [put_rules]))
    (refine walkT_ready (rs := [0]) (by kernel_rfl) (by simp) (by decide) ?_; refine AllT.cons rfl (fun K hK0 => ?_) AllT.nil)
    go_simp
    have S7 := S6.out.own_made 85 2
    (try simp only [World.size_alloc, drew_size, World.size_setCell] at S7)
    have d3 := S7.cell (i := 7) rfl (o := 1) rfl
    replace S7 := Lib.hid S7
    clear S6 b3
    refine hK0.out _ _ d3 (fun hS1 => ?_)
    clear hK0 d3
    (try simp only [put_rules])
    (refine walkT_ready (rs := [5]) (by kernel_rfl) (by simp) (by decide) ?_; refine AllT.cons rfl (fun K hK0 => ?_) AllT.nil)
    (refine step_append_src rfl _ _ rfl Try.underlying30 hi hz0 hz1 hz2 rfl (by decide) _ 0 _ rfl (S7.out.own (i := 0) rfl) _ kk c _ rfl (sTo.out.grow S7.out.below) aTo.out (by unfold maxLen; omega) (by omega) ?_; intro vE wE hownE hgE hatE)
    have S8 := S7.out.own_push (i := 0) rfl (bb _) hownE hgE hatE
    obtain ⟨aE, cE, rfl⟩ := owns_form hownE
    rw [Nat.zero_add, List.nil_append] at S8
    clear hownE hgE hatE
    simp only [Nat.zero_add]
    have d3 := S8.cell (i := 7) rfl (o := 1) rfl
    replace S8 := Lib.hid S8
    clear S7
    refine hK0.out _ _ d3 (fun hS2 => ?_)
    clear hK0 d3
    (try simp only [put_rules])
    (refine walkT_ready (rs := [11]) (by kernel_rfl) (by simp) (by decide) ?_; refine AllT.cons rfl (fun K hK0 => ?_) AllT.nil)
    (refine step_append_src rfl _ _ rfl Try.underlying30 hi hz0 hz1 hz2 rfl (by decide) _ kk _ rfl (S8.out.own (i := 0) rfl) _ (es.length - (kk + 1)) (c - (kk + 1)) _ rfl (sFr.out.grow S8.out.below) aFr.out (by unfold maxLen; omega) (by omega) ?_; intro vH wH hownH hgH hatH)
    have S9 := S8.out.own_push (i := 0) rfl (bb _) hownH hgH hatH
    obtain ⟨aH, cH, rfl⟩ := owns_form hownH
    clear hownH hgH hatH
    rw [hys2.out] at S9 ⊢
    have d3 := S9.cell (i := 7) rfl (o := 1) rfl
    have S10 := owns_row (T := tmTy) (i := 0) S9 rfl rfl (by decide) (hrow.out _)
    have j1 := S10.cell (i := 3) rfl (o := 1) rfl
    have p1 := S10.frozen (i := 3) rfl 1
    have S11 := S10.store (i := 3) rfl 1 (.slice aH ys.length cH)
    replace S11 := Lib.hid S11
    clear S8 S9 S10
    refine hK0.out _ _ d3 (fun hS3 => ?_)
    clear hK0 d3
    (try simp only [put_rules])
    (refine walkT_done (by kernel_rfl) ?_)
    simp only [List.drop_succ_cons, List.drop_zero]
    have k0 := S11.out.cell (i := 3) rfl (o := 0) rfl
    have k1 := S11.out.cell (i := 3) rfl (o := 1) rfl
    have k2 := S11.out.cell (i := 3) rfl (o := 2) rfl
    have m0 := S11.out.cell (i := 6) rfl (o := 0) rfl
    have m1 := S11.out.cell (i := 6) rfl (o := 1) rfl
    have m2 := S11.out.cell (i := 6) rfl (o := 2) rfl
    have n0 := S11.out.frozen (i := 6) rfl 0
    have n1 := S11.out.frozen (i := 6) rfl 1
    have n2 := S11.out.frozen (i := 6) rfl 2
    have SF := Lib.hid (((S11.out.store (i := 6) rfl 0 (.int .i64 V)).store (i := 6) rfl 1 (.slice aH ys.length cH)).store (i := 6) rfl 2 (.slice vb4 ts.length vd4))
    clear S11
    go_wp2_with fail
    exact bodyPost_ret (v := .tuple #[.agg #[.int .i64 V, .slice aH ys.length cH, .slice vb4 ts.length vd4], .bool true]) (by simp [results, Try.results19, go_sem, m0, m1, m2]) rfl ⟨_, _, rfl, SF.out.drop2.front (qs := [_, _])⟩

set_option maxRecDepth 100000 in
set_option maxHeartbeats 8000000 in
theorem implRemoveEdge_any (V k value : Int) (v u : Value) (es : List (Int × Int)) (cs : List Int) (F G : List Nat) (w : World) (hx : tmTy.row false w v es F) (hy : Ty.int.row false w u cs G) :
    Calls Try.prog 20 #[.agg #[.int .i64 V, v, u], .int .i64 k, .int .i64 value] w (MovePost w (removeB V es cs k value)) := by
  obtain ⟨a, c, rfl, hca, _⟩ := Ty.row_len hx
  obtain ⟨ua, uc, rfl, _, _⟩ := Ty.row_len hy
  have S0 := (((Sp.start w).alloc_box #[.int .i64 V, .slice a es.length c, .slice ua cs.length uc] 35).alloc_box #[.int .i64 0, .slice none 0 0, .slice none 0 0] 35)
  simp only [World.size_alloc] at S0
  replace S0 := Lib.hid S0
  have hxr := Lib.hid hx
  have hyr := Lib.hid hy
  cases hc : chargedB V es cs
  · rw [remove_no (by unfold edgeB; rw [hc]; rfl)]
    go_enter Try.func20, Try.ntmps20
    go_wp2_with fail
    refine (isCharged_any V _ _ es cs _ _ _ (Ty.row_below hxr.out S0.out.below (Ty.row_lt hxr.out)) (Ty.row_below hyr.out S0.out.below (Ty.row_lt hyr.out))).mono ?_
    rw [hc]
    rintro e w1 ⟨rfl, hb1⟩
    have S1 := Lib.hid (S0.out.grow hb1)
    clear S0 hb1 hx hy
    have j0 := S1.out.cell (i := 0) rfl (o := 0) rfl
    have j1 := S1.out.cell (i := 0) rfl (o := 1) rfl
    have j2 := S1.out.cell (i := 0) rfl (o := 2) rfl
    have p0 := S1.out.frozen (i := 0) rfl 0
    have p1 := S1.out.frozen (i := 0) rfl 1
    have p2 := S1.out.frozen (i := 0) rfl 2
    have SZ := Lib.hid (((S1.out.store (i := 0) rfl 0 (.int .i64 0)).store (i := 0) rfl 1 (.slice none 0 0)).store (i := 0) rfl 2 (.slice none 0 0))
    go_wp2_with fail
    exact bodyPost_ret (v := .tuple #[.agg #[.int .i64 0, .slice none 0 0, .slice none 0 0], .bool false]) (by simp [results, Try.results20, go_sem, j0, j1, j2]) rfl ⟨_, _, rfl, SZ.out.nils⟩
  have hl := (charged_facts hc).2.2.1
  cases hk : inB k 0 ((es.length : Int) - 1)
  · rw [remove_no (by unfold edgeB; rw [hk]; simp)]
    go_enter Try.func20, Try.ntmps20
    go_wp2_with fail
    refine (isCharged_any V _ _ es cs _ _ _ (Ty.row_below hxr.out S0.out.below (Ty.row_lt hxr.out)) (Ty.row_below hyr.out S0.out.below (Ty.row_lt hyr.out))).mono ?_
    rw [hc]
    rintro e w1 ⟨rfl, hb1⟩
    have S1 := S0.out.grow hb1
    have c0 := S1.cell (i := 1) rfl (o := 0) rfl
    have c1 := S1.cell (i := 1) rfl (o := 1) rfl
    have c2 := S1.cell (i := 1) rfl (o := 2) rfl
    replace S1 := Lib.hid S1
    clear S0 hb1 hx hy
    go_wp2_with fail
    refine (isEdge_any V k _ _ es cs _ _ _ (Ty.row_below hxr.out S1.out.below (Ty.row_lt hxr.out)) (Ty.row_below hyr.out S1.out.below (Ty.row_lt hyr.out)) hl).mono ?_
    rw [hk]
    rintro e w2 ⟨rfl, hb2⟩
    have S2 := Lib.hid (S1.out.grow hb2)
    clear S1 hb2 c0 c1 c2
    have j0 := S2.out.cell (i := 0) rfl (o := 0) rfl
    have j1 := S2.out.cell (i := 0) rfl (o := 1) rfl
    have j2 := S2.out.cell (i := 0) rfl (o := 2) rfl
    have p0 := S2.out.frozen (i := 0) rfl 0
    have p1 := S2.out.frozen (i := 0) rfl 1
    have p2 := S2.out.frozen (i := 0) rfl 2
    have SZ := Lib.hid (((S2.out.store (i := 0) rfl 0 (.int .i64 0)).store (i := 0) rfl 1 (.slice none 0 0)).store (i := 0) rfl 2 (.slice none 0 0))
    go_wp2_with fail
    exact bodyPost_ret (v := .tuple #[.agg #[.int .i64 0, .slice none 0 0, .slice none 0 0], .bool false]) (by simp [results, Try.results20, go_sem, j0, j1, j2]) rfl ⟨_, _, rfl, SZ.out.nils⟩
  have hq : edgeB V es cs k = true := by unfold edgeB; rw [hc, hk]; rfl
  cases hv : inB value 0 1
  · rw [remove_no (by rw [hv]; simp)]
    go_enter Try.func20, Try.ntmps20
    go_wp2_with fail
    refine (isCharged_any V _ _ es cs _ _ _ (Ty.row_below hxr.out S0.out.below (Ty.row_lt hxr.out)) (Ty.row_below hyr.out S0.out.below (Ty.row_lt hyr.out))).mono ?_
    rw [hc]
    rintro e w3 ⟨rfl, hb3⟩
    have S3 := S0.out.grow hb3
    have c0 := S3.cell (i := 1) rfl (o := 0) rfl
    have c1 := S3.cell (i := 1) rfl (o := 1) rfl
    have c2 := S3.cell (i := 1) rfl (o := 2) rfl
    replace S3 := Lib.hid S3
    go_wp2_with fail
    refine (isEdge_any V _ _ _ es cs _ _ _ (Ty.row_below hxr.out S3.out.below (Ty.row_lt hxr.out)) (Ty.row_below hyr.out S3.out.below (Ty.row_lt hyr.out)) hl).mono ?_
    rw [hk]
    rintro e w1 ⟨rfl, hb1⟩
    have S1 := S3.out.grow hb1
    clear c0 c1 c2 S3 hb3
    have c0 := S1.cell (i := 1) rfl (o := 0) rfl
    have c1 := S1.cell (i := 1) rfl (o := 1) rfl
    have c2 := S1.cell (i := 1) rfl (o := 2) rfl
    replace S1 := Lib.hid S1
    clear S0 hb1 hx hy
    go_wp2_with fail
    (refine (within_q hv _).mono ?_; rintro e w9 ⟨rfl, rfl⟩)
    clear c0 c1 c2
    have j0 := S1.out.cell (i := 0) rfl (o := 0) rfl
    have j1 := S1.out.cell (i := 0) rfl (o := 1) rfl
    have j2 := S1.out.cell (i := 0) rfl (o := 2) rfl
    have p0 := S1.out.frozen (i := 0) rfl 0
    have p1 := S1.out.frozen (i := 0) rfl 1
    have p2 := S1.out.frozen (i := 0) rfl 2
    have SZ := Lib.hid (((S1.out.store (i := 0) rfl 0 (.int .i64 0)).store (i := 0) rfl 1 (.slice none 0 0)).store (i := 0) rfl 2 (.slice none 0 0))
    go_wp2_with fail
    exact bodyPost_ret (v := .tuple #[.agg #[.int .i64 0, .slice none 0 0, .slice none 0 0], .bool false]) (by simp [results, Try.results20, go_sem, j0, j1, j2]) rfl ⟨_, _, rfl, SZ.out.nils⟩
  obtain ⟨kk, x1, x2, y1, y2, hK, h12, hx2, rfl, he, e1, e2, z1, z2, hm, l1, l2, _, _⟩ := edge_facts hq
  have r0 := remove_zero hq
  have r1 := remove_one hq hm
  have hys2 : kk + (es.length - (kk + 1)) = (es.take kk ++ es.drop (kk + 1)).length := by rw [List.length_append, List.length_take, List.length_drop]; omega
  have hys3 : ∀ w', tmTy.all true w' (es.flatMap tmEnc) es [] → tmTy.all true w' ((es.flatMap tmEnc).take (kk * 2) ++ (es.flatMap tmEnc).drop ((kk + 1) * 2)) (es.take kk ++ es.drop (kk + 1)) [] := fun w' h => take_drop_all h hK
  obtain ⟨ys, hys⟩ : ∃ ys, ys = es.take kk ++ es.drop (kk + 1) := ⟨_, rfl⟩
  rw [← hys] at r0 r1 hys2
  simp only [← hys] at hys3
  replace r0 := Lib.hid r0
  replace r1 := Lib.hid r1
  replace hys := Lib.hid hys
  replace hys2 := Lib.hid hys2
  replace hys3 := Lib.hid hys3
  have hne : es ≠ [] := fun e => by subst e; simp at hK
  replace he := Lib.hid he
  replace e1 := Lib.hid e1
  replace e2 := Lib.hid e2
  have hkw : IntKind.i64.wrap ((kk : Int) + 1) = (kk : Int) + 1 := IntWalk.i64_in _ (by omega)
  have q1 : kk ≤ c := by omega
  have q2 : kk + 1 ≤ es.length := by omega
  clear hm hne
  rcases (show value = 0 ∨ value = 1 by have := inB_true.1 hv; omega) with rfl | rfl
  · rw [r0.out]
    go_enter Try.func20, Try.ntmps20
    go_wp2_with fail
    refine (isCharged_any V _ _ es cs _ _ _ (Ty.row_below hxr.out S0.out.below (Ty.row_lt hxr.out)) (Ty.row_below hyr.out S0.out.below (Ty.row_lt hyr.out))).mono ?_
    rw [hc]
    rintro e w3 ⟨rfl, hb3⟩
    have S3 := S0.out.grow hb3
    have c0 := S3.cell (i := 1) rfl (o := 0) rfl
    have c1 := S3.cell (i := 1) rfl (o := 1) rfl
    have c2 := S3.cell (i := 1) rfl (o := 2) rfl
    replace S3 := Lib.hid S3
    go_wp2_with fail
    refine (isEdge_any V _ _ _ es cs _ _ _ (Ty.row_below hxr.out S3.out.below (Ty.row_lt hxr.out)) (Ty.row_below hyr.out S3.out.below (Ty.row_lt hyr.out)) hl).mono ?_
    rw [hk]
    rintro e w1 ⟨rfl, hb1⟩
    have S1 := S3.out.grow hb1
    clear c0 c1 c2 S3 hb3
    have c0 := S1.cell (i := 1) rfl (o := 0) rfl
    have c1 := S1.cell (i := 1) rfl (o := 1) rfl
    have c2 := S1.cell (i := 1) rfl (o := 2) rfl
    replace S1 := Lib.hid S1
    clear S0 hb1 hx hy
    go_wp2_with fail
    (refine (within_q hv _).mono ?_; rintro e w9 ⟨rfl, rfl⟩)
    go_wp2_with fail
    refine (clone_any V _ _ es cs _ _ _ (Ty.row_below hxr.out S1.out.below (Ty.row_lt hxr.out)) (Ty.row_below hyr.out S1.out.below (Ty.row_lt hyr.out)) (by omega) (by omega)).mono ?_
    rintro e w2 ⟨v2, u2, rfl, T2⟩
    obtain ⟨_, tr2⟩ := T2.row_at (i := 0) rfl
    obtain ⟨_, ti2⟩ := T2.row_at (i := 1) rfl
    obtain ⟨va2, vc2, rfl, _, _⟩ := Ty.row_len tr2
    obtain ⟨vb2, vd2, rfl, _, _⟩ := Ty.row_len ti2
    have S2 := ((S1.out.seq T2).alloc_box #[.int .i64 V, .slice va2 es.length vc2, .slice vb2 cs.length vd2] 35)
    clear S1 T2 tr2 ti2 c0 c1 c2
    have f0 := S2.cell (i := 0) rfl (o := 1) rfl
    obtain ⟨Fd, dr, dn, dF, dall⟩ := (show ∃ Fd, tmTy.row true _ (.slice va2 es.length vc2) es Fd ∧ Fd.Nodup ∧ (∀ b ∈ Fd, b ∈ Fd) ∧ (∀ w' ys v' F', tmTy.row true w' v' ys F' → F'.Nodup → (∀ b ∈ F', b ∈ Fd) → Chg Fd _ w' → Sp w w' (List.set _ 1 (Row tmTy v' ys))) from by
      obtain ⟨Fi, ⟨h1, h2⟩, _, h4⟩ := S2.upd (i := 1) (q := Row tmTy (.slice va2 es.length vc2) es) rfl
      exact ⟨Fi, h1, h2, fun _ h => h, fun w' ys v' F' h5 h6 h7 h8 => h4 w' (Row tmTy v' ys) F' h8 ⟨h5, h6⟩ fun b hb => .inl (h7 b hb)⟩)
    obtain ⟨bD, oD, rfl⟩ := row_tm_ptr dr (fun e => by subst e; simp at hK)
    replace dall := Lib.hid dall
    replace dr := Lib.hid dr
    clear dF dn
    replace S2 := Lib.hid S2
    go_wp2_with fail
    refine (delPair_any bD oD vc2 kk es Fd _ dr.out hK (by omega)).mono ?_
    rintro e w7 ⟨rfl, F7, hr7, hn7, hF7, hC7⟩
    rw [← hys.out] at hr7
    have S10 := dall.out w7 _ _ F7 hr7 hn7 hF7 hC7
    have j1 := S10.cell (i := 0) rfl (o := 1) rfl
    have p1 := S10.frozen (i := 0) rfl 1
    have S11 := S10.store (i := 0) rfl 1 (.slice (some ⟨bD, oD, none⟩) (es.length - 1) vc2)
    replace S11 := Lib.hid S11
    clear dall dr hr7 hn7 hF7 hC7 S10 f0 S2
    have k0 := S11.out.cell (i := 0) rfl (o := 0) rfl
    have k1 := S11.out.cell (i := 0) rfl (o := 1) rfl
    have k2 := S11.out.cell (i := 0) rfl (o := 2) rfl
    have m0 := S11.out.cell (i := 3) rfl (o := 0) rfl
    have m1 := S11.out.cell (i := 3) rfl (o := 1) rfl
    have m2 := S11.out.cell (i := 3) rfl (o := 2) rfl
    have n0 := S11.out.frozen (i := 3) rfl 0
    have n1 := S11.out.frozen (i := 3) rfl 1
    have n2 := S11.out.frozen (i := 3) rfl 2
    have SF := Lib.hid (((S11.out.store (i := 3) rfl 0 (.int .i64 V)).store (i := 3) rfl 1 (.slice (some ⟨bD, oD, none⟩) (es.length - 1) vc2)).store (i := 3) rfl 2 (.slice vb2 cs.length vd2))
    clear S11
    go_wp2_with fail
    exact bodyPost_ret (v := .tuple #[.agg #[.int .i64 V, .slice (some ⟨bD, oD, none⟩) (es.length - 1) vc2, .slice vb2 cs.length vd2], .bool true]) (by simp [results, Try.results20, go_sem, m0, m1, m2]) rfl ⟨_, _, rfl, SF.out.tail.front (qs := [_, _])⟩
  · rw [r1.out]
    go_enter Try.func20, Try.ntmps20
    go_wp2_with fail
    refine (isCharged_any V _ _ es cs _ _ _ (Ty.row_below hxr.out S0.out.below (Ty.row_lt hxr.out)) (Ty.row_below hyr.out S0.out.below (Ty.row_lt hyr.out))).mono ?_
    rw [hc]
    rintro e w3 ⟨rfl, hb3⟩
    have S3 := S0.out.grow hb3
    have c0 := S3.cell (i := 1) rfl (o := 0) rfl
    have c1 := S3.cell (i := 1) rfl (o := 1) rfl
    have c2 := S3.cell (i := 1) rfl (o := 2) rfl
    replace S3 := Lib.hid S3
    go_wp2_with fail
    refine (isEdge_any V _ _ _ es cs _ _ _ (Ty.row_below hxr.out S3.out.below (Ty.row_lt hxr.out)) (Ty.row_below hyr.out S3.out.below (Ty.row_lt hyr.out)) hl).mono ?_
    rw [hk]
    rintro e w1 ⟨rfl, hb1⟩
    have S1 := S3.out.grow hb1
    clear c0 c1 c2 S3 hb3
    have c0 := S1.cell (i := 1) rfl (o := 0) rfl
    have c1 := S1.cell (i := 1) rfl (o := 1) rfl
    have c2 := S1.cell (i := 1) rfl (o := 2) rfl
    replace S1 := Lib.hid S1
    clear S0 hb1 hx hy
    go_wp2_with fail
    (refine (within_q hv _).mono ?_; rintro e w9 ⟨rfl, rfl⟩)
    go_wp2_with fail
    refine (clone_any V _ _ es cs _ _ _ (Ty.row_below hxr.out S1.out.below (Ty.row_lt hxr.out)) (Ty.row_below hyr.out S1.out.below (Ty.row_lt hyr.out)) (by omega) (by omega)).mono ?_
    rintro e w2 ⟨v2, u2, rfl, T2⟩
    obtain ⟨_, tr2⟩ := T2.row_at (i := 0) rfl
    obtain ⟨_, ti2⟩ := T2.row_at (i := 1) rfl
    obtain ⟨va2, vc2, rfl, _, _⟩ := Ty.row_len tr2
    obtain ⟨vb2, vd2, rfl, _, _⟩ := Ty.row_len ti2
    have S2 := ((S1.out.seq T2).alloc_box #[.int .i64 V, .slice va2 es.length vc2, .slice vb2 cs.length vd2] 35)
    have c3 := S2.cell (i := 4) rfl (o := 0) rfl
    have c4 := S2.cell (i := 4) rfl (o := 1) rfl
    have c5 := S2.cell (i := 4) rfl (o := 2) rfl
    replace S2 := Lib.hid S2
    clear S1 T2 tr2 ti2 c0 c1 c2
    go_wp2_with fail
    refine (flipped_any V _ _ es cs _ _ _ (Ty.row_below hxr.out S2.out.below (Ty.row_lt hxr.out)) (Ty.row_below hyr.out S2.out.below (Ty.row_lt hyr.out)) (by omega) (by omega) kk x1 x2 y1 y2 hK he.out h12 hx2 e1.out e2.out z1 z2).mono ?_
    rintro e w4 ⟨v4, u4, rfl, T4⟩
    obtain ⟨_, tr4⟩ := T4.row_at (i := 0) rfl
    obtain ⟨_, ti4⟩ := T4.row_at (i := 1) rfl
    obtain ⟨va4, vc4, rfl, _, _⟩ := Ty.row_len tr4
    obtain ⟨vb4, vd4, rfl, _, _⟩ := Ty.row_len ti4
    have S4 := S2.out.seq T4
    generalize (turned cs x1 x2 y1 y2) = ts at *
    have p0 := S4.frozen (i := 2) rfl 0
    have p1 := S4.frozen (i := 2) rfl 1
    have p2 := S4.frozen (i := 2) rfl 2
    have j0 := S4.cell (i := 2) rfl (o := 0) rfl
    have j1 := S4.cell (i := 2) rfl (o := 1) rfl
    have j2 := S4.cell (i := 2) rfl (o := 2) rfl
    have S5 := ((S4.store (i := 2) rfl 0 (.int .i64 V)).store (i := 2) rfl 1 (.slice va4 es.length vc4)).store (i := 2) rfl 2 (.slice vb4 ts.length vd4)
    clear S2 S4 T4 tr4 ti4 c3 c4 c5
    have f0 := S5.cell (i := 2) rfl (o := 1) rfl
    obtain ⟨Fd, dr, dn, dF, dall⟩ := (show ∃ Fd, tmTy.row true _ (.slice va4 es.length vc4) es Fd ∧ Fd.Nodup ∧ (∀ b ∈ Fd, b ∈ Fd) ∧ (∀ w' ys v' F', tmTy.row true w' v' ys F' → F'.Nodup → (∀ b ∈ F', b ∈ Fd) → Chg Fd _ w' → Sp w w' (List.set _ 0 (Row tmTy v' ys))) from by
      obtain ⟨Fi, ⟨h1, h2⟩, _, h4⟩ := S5.upd (i := 0) (q := Row tmTy (.slice va4 es.length vc4) es) rfl
      exact ⟨Fi, h1, h2, fun _ h => h, fun w' ys v' F' h5 h6 h7 h8 => h4 w' (Row tmTy v' ys) F' h8 ⟨h5, h6⟩ fun b hb => .inl (h7 b hb)⟩)
    obtain ⟨bD, oD, rfl⟩ := row_tm_ptr dr (fun e => by subst e; simp at hK)
    replace dall := Lib.hid dall
    replace dr := Lib.hid dr
    clear dF dn
    replace S5 := Lib.hid S5
    go_wp2_with fail
    clear p0 p1 p2 j0 j1 j2
    refine (delPair_any bD oD vc4 kk es Fd _ dr.out hK (by omega)).mono ?_
    rintro e w7 ⟨rfl, F7, hr7, hn7, hF7, hC7⟩
    rw [← hys.out] at hr7
    have S10 := dall.out w7 _ _ F7 hr7 hn7 hF7 hC7
    have j1 := S10.cell (i := 2) rfl (o := 1) rfl
    have p1 := S10.frozen (i := 2) rfl 1
    have S11 := S10.store (i := 2) rfl 1 (.slice (some ⟨bD, oD, none⟩) (es.length - 1) vc4)
    replace S11 := Lib.hid S11
    clear dall dr hr7 hn7 hF7 hC7 S10 f0 S5
    have k0 := S11.out.cell (i := 2) rfl (o := 0) rfl
    have k1 := S11.out.cell (i := 2) rfl (o := 1) rfl
    have k2 := S11.out.cell (i := 2) rfl (o := 2) rfl
    have m0 := S11.out.cell (i := 5) rfl (o := 0) rfl
    have m1 := S11.out.cell (i := 5) rfl (o := 1) rfl
    have m2 := S11.out.cell (i := 5) rfl (o := 2) rfl
    have n0 := S11.out.frozen (i := 5) rfl 0
    have n1 := S11.out.frozen (i := 5) rfl 1
    have n2 := S11.out.frozen (i := 5) rfl 2
    have SF := Lib.hid (((S11.out.store (i := 5) rfl 0 (.int .i64 V)).store (i := 5) rfl 1 (.slice (some ⟨bD, oD, none⟩) (es.length - 1) vc4)).store (i := 5) rfl 2 (.slice vb4 ts.length vd4))
    clear S11
    go_wp2_with fail
    exact bodyPost_ret (v := .tuple #[.agg #[.int .i64 V, .slice (some ⟨bD, oD, none⟩) (es.length - 1) vc4, .slice vb4 ts.length vd4], .bool true]) (by simp [results, Try.results20, go_sem, m0, m1, m2]) rfl ⟨_, _, rfl, SF.out.front (qs := [_, _])⟩

end Go.Proofs.Ytebhkfhdjdgokaa
