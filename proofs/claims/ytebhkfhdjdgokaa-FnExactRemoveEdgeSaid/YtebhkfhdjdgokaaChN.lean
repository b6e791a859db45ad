/- Contracts: MoveCharge on both sides. -/
import Derived.Test.YtebhkfhdjdgokaaChM
namespace Go.Proofs.Ytebhkfhdjdgokaa
open Go.RowKit

/-- What MoveCharge answers. -/
def moveB (V : Int) (es : List (Int × Int)) (cs : List Int) (k : Int) : Int × List (Int × Int) × List Int × Bool :=
  if edgeB V es cs k then (V, es, turned cs (es.getD k.toNat (0, 0)).1.toNat (es.getD k.toNat (0, 0)).2.toNat (cs.getD (es.getD k.toNat (0, 0)).1.toNat 0) (cs.getD (es.getD k.toNat (0, 0)).2.toNat 0), true) else (0, [], [], false)
def MovePost (w : World) (r : Int × List (Int × Int) × List Int × Bool) (e : Ending) (w' : World) : Prop :=
  ∃ v u, e = .returned (.tuple #[.agg #[.int .i64 r.1, v, u], .bool r.2.2.2]) ∧ Sp w w' [Row tmTy v r.2.1, Row Ty.int u r.2.2.1]
theorem move_no {V : Int} {es : List (Int × Int)} {cs : List Int} {k : Int} (h : edgeB V es cs k = false) : moveB V es cs k = (0, [], [], false) := by unfold moveB; rw [h]; rfl
theorem edge_facts {V : Int} {es : List (Int × Int)} {cs : List Int} {k : Int} (h : edgeB V es cs k = true) :
    ∃ (K x1 x2 : Nat) (y1 y2 : Int) (hK : K < es.length) (h12 : x1 < x2) (hx2 : x2 < cs.length), k = K ∧ es[K] = ((x1 : Int), (x2 : Int)) ∧ cs[x1] = y1 ∧ cs[x2] = y2 ∧ (0 ≤ y1 ∧ y1 ≤ 1) ∧ (0 ≤ y2 ∧ y2 ≤ 1) ∧
      moveB V es cs k = (V, es, turned cs x1 x2 y1 y2, true) ∧ es.length ≤ 12 ∧ cs.length ≤ 8 ∧ chargedB V es cs = true ∧ inB k 0 ((es.length : Int) - 1) = true := by
  have h' := h
  unfold edgeB at h'
  rw [Bool.and_eq_true] at h'
  obtain ⟨hc, hk⟩ := h'
  have hk' := inB_true.1 hk
  obtain ⟨a1, a2, a3, a4, a5, a6⟩ := charged_facts hc
  obtain ⟨K, rfl⟩ := Int.eq_ofNat_of_zero_le hk'.1
  have hK : K < es.length := by omega
  obtain ⟨b1, b2, b3⟩ := a5 K hK
  obtain ⟨x1, e1⟩ := Int.eq_ofNat_of_zero_le b1
  obtain ⟨x2, e2⟩ := Int.eq_ofNat_of_zero_le (show 0 ≤ es[K].2 by omega)
  have hx2 : x2 < cs.length := by omega
  have h12 : x1 < x2 := by omega
  have he : es[K] = ((x1 : Int), (x2 : Int)) := Prod.ext e1 e2
  refine ⟨K, x1, x2, cs[x1], cs[x2], hK, h12, hx2, rfl, he, rfl, rfl, a6 x1 (by omega), a6 x2 hx2, ?_, a3, by omega, hc, hk⟩
  unfold moveB
  rw [if_pos h]
  have hg : es.getD (K : Int).toNat (0, 0) = ((x1 : Int), (x2 : Int)) := by
    rw [Int.toNat_natCast, List.getD_eq_getElem?_getD, List.getElem?_eq_getElem hK]; exact he
  rw [hg]
  simp only [Int.toNat_natCast]
  rw [List.getD_eq_getElem?_getD, List.getD_eq_getElem?_getD, List.getElem?_eq_getElem (show x1 < cs.length by omega), List.getElem?_eq_getElem hx2]
  rfl
theorem Sp.nils {w w' : World} {ps : List Asn} (h : Sp w w' ps) : Sp w w' [Row tmTy (.slice none 0 0) [], Row Ty.int (.slice none 0 0) []] :=
  ((Sp.of_below h.below).row_new (T := Ty.int) (F := []) (bb _) (Ty.row_nil _ _ _ _ _ (by decide)) (by simp) (by simp)).row_new (T := tmTy) (F := []) (bb _) (Ty.row_nil _ _ _ _ _ (by decide)) (by simp) (by simp)

set_option maxRecDepth 100000 in
set_option maxHeartbeats 4000000 in
theorem specMoveCharge_any (V k : Int) (v u : Value) (es : List (Int × Int)) (cs : List Int) (F G : List Nat) (w : World) (hx : tmTy.row false w v es F) (hy : Ty.int.row false w u cs G) :
    Calls Try.prog 13 #[.agg #[.int .i64 V, v, u], .int .i64 k] w (MovePost w (moveB V es cs k)) := by
  obtain ⟨a, c, rfl, _, _⟩ := Ty.row_len hx
  obtain ⟨ua, uc, rfl, _, _⟩ := Ty.row_len hy
  have S0 := (((Sp.start w).alloc_box #[.int .i64 V, .slice a es.length c, .slice ua cs.length uc] 35).alloc_box #[.int .i64 0, .slice none 0 0, .slice none 0 0] 35)
  simp only [World.size_alloc] at S0
  replace S0 := Lib.hid S0
  have hxr := Lib.hid hx
  have hyr := Lib.hid hy
  cases hq : edgeB V es cs k
  · rw [move_no hq]
    go_enter Try.func13, Try.ntmps13
    go_wp2_with fail
    refine (l27Edge_any V k _ _ es cs _ _ _ (Ty.row_below hxr.out S0.out.below (Ty.row_lt hxr.out)) (Ty.row_below hyr.out S0.out.below (Ty.row_lt hyr.out))).mono ?_
    rw [hq]
    rintro e w1 ⟨rfl, hb1⟩
    have S1 := S0.out.grow hb1
    have j0 := S1.cell (i := 0) rfl (o := 0) rfl
    have j1 := S1.cell (i := 0) rfl (o := 1) rfl
    have j2 := S1.cell (i := 0) rfl (o := 2) rfl
    have p0 := S1.frozen (i := 0) rfl 0
    have p1 := S1.frozen (i := 0) rfl 1
    have p2 := S1.frozen (i := 0) rfl 2
    have S2 := Lib.hid (((S1.store (i := 0) rfl 0 (.int .i64 0)).store (i := 0) rfl 1 (.slice none 0 0)).store (i := 0) rfl 2 (.slice none 0 0))
    clear S0 S1 hx hy
    go_wp2_with fail
    exact bodyPost_ret (v := .tuple #[.agg #[.int .i64 0, .slice none 0 0, .slice none 0 0], .bool false]) (by simp [results, Try.results13, go_sem, j0, j1, j2]) rfl ⟨_, _, rfl, S2.out.nils⟩
  · obtain ⟨K, x1, x2, y1, y2, hK, h12, hx2, rfl, he, e1, e2, z1, z2, hm, l1, l2, _, _⟩ := edge_facts hq
    rw [hm]
    replace he := Lib.hid he
    replace e1 := Lib.hid e1
    replace e2 := Lib.hid e2
    clear hm
    go_enter Try.func13, Try.ntmps13
    go_wp2_with fail
    refine (l27Edge_any V K _ _ es cs _ _ _ (Ty.row_below hxr.out S0.out.below (Ty.row_lt hxr.out)) (Ty.row_below hyr.out S0.out.below (Ty.row_lt hyr.out))).mono ?_
    rw [hq]
    rintro e w1 ⟨rfl, hb1⟩
    have S1 := S0.out.grow hb1
    have c0 := S1.cell (i := 1) rfl (o := 0) rfl
    have c1 := S1.cell (i := 1) rfl (o := 1) rfl
    have c2 := S1.cell (i := 1) rfl (o := 2) rfl
    replace S1 := Lib.hid S1
    clear S0 hb1 hx hy
    go_wp2_with fail
    refine (l27Flip_any V _ _ es cs _ _ _ (Ty.row_below hxr.out S1.out.below (Ty.row_lt hxr.out)) (Ty.row_below hyr.out S1.out.below (Ty.row_lt hyr.out)) (by omega) (by omega) K x1 x2 y1 y2 hK he.out h12 hx2 e1.out e2.out z1 z2).mono ?_
    rintro e w2 ⟨v2, u2, rfl, T2⟩
    obtain ⟨_, tr⟩ := T2.row_at (i := 0) rfl
    obtain ⟨_, ti⟩ := T2.row_at (i := 1) rfl
    obtain ⟨va, vc, rfl, _, _⟩ := Ty.row_len tr
    obtain ⟨vb, vd, rfl, _, _⟩ := Ty.row_len ti
    have S2 := S1.out.seq T2
    have j0 := S2.cell (i := 2) rfl (o := 0) rfl
    have j1 := S2.cell (i := 2) rfl (o := 1) rfl
    have j2 := S2.cell (i := 2) rfl (o := 2) rfl
    have p0 := S2.frozen (i := 2) rfl 0
    have p1 := S2.frozen (i := 2) rfl 1
    have p2 := S2.frozen (i := 2) rfl 2
    generalize (turned cs x1 x2 y1 y2) = ts at *
    have S3 := Lib.hid (((S2.store (i := 2) rfl 0 (.int .i64 V)).store (i := 2) rfl 1 (.slice va es.length vc)).store (i := 2) rfl 2 (.slice vb ts.length vd))
    clear S1 S2 T2 tr ti c0 c1 c2
    go_wp2_with fail
    exact bodyPost_ret (v := .tuple #[.agg #[.int .i64 V, .slice va es.length vc, .slice vb ts.length vd], .bool true]) (by simp [results, Try.results13, go_sem, j0, j1, j2]) rfl ⟨_, _, rfl, S3.out.front (qs := [_, _])⟩

set_option maxRecDepth 100000 in
set_option maxHeartbeats 4000000 in
theorem implMoveCharge_any (V k : Int) (v u : Value) (es : List (Int × Int)) (cs : List Int) (F G : List Nat) (w : World) (hx : tmTy.row false w v es F) (hy : Ty.int.row false w u cs G) :
    Calls Try.prog 15 #[.agg #[.int .i64 V, v, u], .int .i64 k] w (MovePost w (moveB V es cs k)) := by
  obtain ⟨a, c, rfl, _, _⟩ := Ty.row_len hx
  obtain ⟨ua, uc, rfl, _, _⟩ := Ty.row_len hy
  have S0 := (((Sp.start w).alloc_box #[.int .i64 V, .slice a es.length c, .slice ua cs.length uc] 35).alloc_box #[.int .i64 0, .slice none 0 0, .slice none 0 0] 35)
  simp only [World.size_alloc] at S0
  replace S0 := Lib.hid S0
  have hxr := Lib.hid hx
  have hyr := Lib.hid hy
  cases hc : chargedB V es cs
  · rw [move_no (by unfold edgeB; rw [hc]; rfl)]
    go_enter Try.func15, Try.ntmps15
    go_wp2_with fail
    refine (isCharged_any V _ _ es cs _ _ _ (Ty.row_below hxr.out S0.out.below (Ty.row_lt hxr.out)) (Ty.row_below hyr.out S0.out.below (Ty.row_lt hyr.out))).mono ?_
    rw [hc]
    rintro e w1 ⟨rfl, hb1⟩
    have S1 := S0.out.grow hb1
    have j0 := S1.cell (i := 0) rfl (o := 0) rfl
    have j1 := S1.cell (i := 0) rfl (o := 1) rfl
    have j2 := S1.cell (i := 0) rfl (o := 2) rfl
    have p0 := S1.frozen (i := 0) rfl 0
    have p1 := S1.frozen (i := 0) rfl 1
    have p2 := S1.frozen (i := 0) rfl 2
    have S2 := Lib.hid (((S1.store (i := 0) rfl 0 (.int .i64 0)).store (i := 0) rfl 1 (.slice none 0 0)).store (i := 0) rfl 2 (.slice none 0 0))
    clear S0 S1 hx hy
    go_wp2_with fail
    exact bodyPost_ret (v := .tuple #[.agg #[.int .i64 0, .slice none 0 0, .slice none 0 0], .bool false]) (by simp [results, Try.results15, go_sem, j0, j1, j2]) rfl ⟨_, _, rfl, S2.out.nils⟩
  have hl := (charged_facts hc).2.2.1
  cases hq : inB k 0 ((es.length : Int) - 1)
  · rw [move_no (by unfold edgeB; rw [hq]; simp)]
    go_enter Try.func15, Try.ntmps15
    go_wp2_with fail
    refine (isCharged_any V _ _ es cs _ _ _ (Ty.row_below hxr.out S0.out.below (Ty.row_lt hxr.out)) (Ty.row_below hyr.out S0.out.below (Ty.row_lt hyr.out))).mono ?_
    rw [hc]
    rintro e w1 ⟨rfl, hb1⟩
    have S1 := S0.out.grow hb1
    have c0 := S1.cell (i := 1) rfl (o := 0) rfl
    have c1 := S1.cell (i := 1) rfl (o := 1) rfl
    have c2 := S1.cell (i := 1) rfl (o := 2) rfl
    replace S1 := Lib.hid S1
    clear S0 hb1 hx hy
    go_wp2_with fail
    refine (isEdge_any V k _ _ es cs _ _ _ (Ty.row_below hxr.out S1.out.below (Ty.row_lt hxr.out)) (Ty.row_below hyr.out S1.out.below (Ty.row_lt hyr.out)) hl).mono ?_
    rw [hq]
    rintro e w2 ⟨rfl, hb2⟩
    have S2 := S1.out.grow hb2
    have j0 := S2.cell (i := 0) rfl (o := 0) rfl
    have j1 := S2.cell (i := 0) rfl (o := 1) rfl
    have j2 := S2.cell (i := 0) rfl (o := 2) rfl
    have p0 := S2.frozen (i := 0) rfl 0
    have p1 := S2.frozen (i := 0) rfl 1
    have p2 := S2.frozen (i := 0) rfl 2
    have S3 := Lib.hid (((S2.store (i := 0) rfl 0 (.int .i64 0)).store (i := 0) rfl 1 (.slice none 0 0)).store (i := 0) rfl 2 (.slice none 0 0))
    clear S1 S2 c0 c1 c2 hb2
    go_wp2_with fail
    exact bodyPost_ret (v := .tuple #[.agg #[.int .i64 0, .slice none 0 0, .slice none 0 0], .bool false]) (by simp [results, Try.results15, go_sem, j0, j1, j2]) rfl ⟨_, _, rfl, S3.out.nils⟩
  · obtain ⟨K, x1, x2, y1, y2, hK, h12, hx2, rfl, he, e1, e2, z1, z2, hm, l1, l2, _, _⟩ := edge_facts (k := k) (by unfold edgeB; rw [hc, hq]; rfl)
    rw [hm]
    replace he := Lib.hid he
    replace e1 := Lib.hid e1
    replace e2 := Lib.hid e2
    clear hm
    go_enter Try.func15, Try.ntmps15
    go_wp2_with fail
    refine (isCharged_any V _ _ es cs _ _ _ (Ty.row_below hxr.out S0.out.below (Ty.row_lt hxr.out)) (Ty.row_below hyr.out S0.out.below (Ty.row_lt hyr.out))).mono ?_
    rw [hc]
    rintro e w1 ⟨rfl, hb1⟩
    have S1 := S0.out.grow hb1
    have c0 := S1.cell (i := 1) rfl (o := 0) rfl
    have c1 := S1.cell (i := 1) rfl (o := 1) rfl
    have c2 := S1.cell (i := 1) rfl (o := 2) rfl
    replace S1 := Lib.hid S1
    clear S0 hb1 hx hy
    go_wp2_with fail
    refine (isEdge_any V K _ _ es cs _ _ _ (Ty.row_below hxr.out S1.out.below (Ty.row_lt hxr.out)) (Ty.row_below hyr.out S1.out.below (Ty.row_lt hyr.out)) hl).mono ?_
    rw [hq]
    rintro e w3 ⟨rfl, hb2⟩
    have S3 := S1.out.grow hb2
    have c3 := S3.cell (i := 1) rfl (o := 0) rfl
    have c4 := S3.cell (i := 1) rfl (o := 1) rfl
    have c5 := S3.cell (i := 1) rfl (o := 2) rfl
    replace S3 := Lib.hid S3
    clear S1 c0 c1 c2 hb2
    go_wp2_with fail
    refine (flipped_any V _ _ es cs _ _ _ (Ty.row_below hxr.out S3.out.below (Ty.row_lt hxr.out)) (Ty.row_below hyr.out S3.out.below (Ty.row_lt hyr.out)) (by omega) (by omega) K x1 x2 y1 y2 hK he.out h12 hx2 e1.out e2.out z1 z2).mono ?_
    rintro e w2 ⟨v2, u2, rfl, T2⟩
    obtain ⟨_, tr⟩ := T2.row_at (i := 0) rfl
    obtain ⟨_, ti⟩ := T2.row_at (i := 1) rfl
    obtain ⟨va, vc, rfl, _, _⟩ := Ty.row_len tr
    obtain ⟨vb, vd, rfl, _, _⟩ := Ty.row_len ti
    have S2 := S3.out.seq T2
    have j0 := S2.cell (i := 2) rfl (o := 0) rfl
    have j1 := S2.cell (i := 2) rfl (o := 1) rfl
    have j2 := S2.cell (i := 2) rfl (o := 2) rfl
    have p0 := S2.frozen (i := 2) rfl 0
    have p1 := S2.frozen (i := 2) rfl 1
    have p2 := S2.frozen (i := 2) rfl 2
    generalize (turned cs x1 x2 y1 y2) = ts at *
    have S4 := Lib.hid (((S2.store (i := 2) rfl 0 (.int .i64 V)).store (i := 2) rfl 1 (.slice va es.length vc)).store (i := 2) rfl 2 (.slice vb ts.length vd))
    clear S3 S2 T2 tr ti c3 c4 c5
    go_wp2_with fail
    exact bodyPost_ret (v := .tuple #[.agg #[.int .i64 V, .slice va es.length vc, .slice vb ts.length vd], .bool true]) (by simp [results, Try.results15, go_sem, j0, j1, j2]) rfl ⟨_, _, rfl, S4.out.front (qs := [_, _])⟩
end Go.Proofs.Ytebhkfhdjdgokaa
