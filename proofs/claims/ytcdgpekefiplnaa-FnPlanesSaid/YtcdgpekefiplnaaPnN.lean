/- Contracts: numbers of variables and literals that are drawn, up to thirteen. -/
import Derived.Test.YtcdgpekefiplnaaCurK
namespace Go.Proofs.Ytcdgpekefiplnaa
open Go.RowKit

set_option maxRecDepth 100000 in
set_option maxHeartbeats 4000000 in
theorem cur_vars6 (A g : Nat) (ca : Option Addr) (cl cc : Nat) (w : World) (h : CurIs A g ca cl cc w) (hA : A ≤ 80000000) :
    Calls Try.prog 22 #[.pointer (some ⟨g, 0, none⟩)] w (CurPost (IntIn (-1) 13) (A + 4) g ca cl cc w) := by
  have hg := h.lt
  have S0 := Lib.hid ((CS.start h).alloc_box #[.int .i64 1, .int .i64 2, .int .i64 2, .int .i64 3, .int .i64 3, .int .i64 4, .int .i64 5, .int .i64 0, .int .i64 12, .int .i64 (-1), .int .i64 13] 3)
  go_enter Try.func22, Try.ntmps22
  go_wp2_with fail
  refine (cur_pick_at (lo := 0) (hi := 23) S0.out.cur (by omega) (by omega) (by omega) (by omega) (by omega)).mono ?_
  rintro e w1 ⟨_, ⟨x, hx0, hx1, rfl⟩, rfl, hi1, hc1⟩
  have S1 := Lib.hid (S0.out.turn hi1 hc1)
  have hcell : ∀ j, j < 11 → ∃ x, (-1 : Int) ≤ x ∧ x ≤ 13 ∧ w1.cell? ⟨w.heap.size, 0 + j, none⟩ = some (.int .i64 x) := fun j hj => by
    rw [Nat.zero_add]
    match j, hj with
    | 0, _ => exact ⟨_, by decide, by decide, S1.out.cell (i := 0) rfl rfl⟩
    | 1, _ => exact ⟨_, by decide, by decide, S1.out.cell (i := 0) rfl rfl⟩
    | 2, _ => exact ⟨_, by decide, by decide, S1.out.cell (i := 0) rfl rfl⟩
    | 3, _ => exact ⟨_, by decide, by decide, S1.out.cell (i := 0) rfl rfl⟩
    | 4, _ => exact ⟨_, by decide, by decide, S1.out.cell (i := 0) rfl rfl⟩
    | 5, _ => exact ⟨_, by decide, by decide, S1.out.cell (i := 0) rfl rfl⟩
    | 6, _ => exact ⟨_, by decide, by decide, S1.out.cell (i := 0) rfl rfl⟩
    | 7, _ => exact ⟨_, by decide, by decide, S1.out.cell (i := 0) rfl rfl⟩
    | 8, _ => exact ⟨_, by decide, by decide, S1.out.cell (i := 0) rfl rfl⟩
    | 9, _ => exact ⟨_, by decide, by decide, S1.out.cell (i := 0) rfl rfl⟩
    | 10, _ => exact ⟨_, by decide, by decide, S1.out.cell (i := 0) rfl rfl⟩
  replace hcell := Lib.hid hcell
  clear S0 hc1
  obtain ⟨k, hk, hkx⟩ : ∃ k : Nat, k ≤ 2 ∧ x.tdiv 11 = (k : Int) := ⟨(x / 11).toNat, by omega, by rw [Int.tdiv_eq_ediv_of_nonneg hx0]; omega⟩
  have hq : ∀ m, 9 ≤ m → m ≤ 11 → Calls Try.prog 30 #[.pointer (some ⟨g, 0, none⟩), .slice (some ⟨w.heap.size, 0, none⟩) m 11] w1 (CurPost (IntIn (-1) 13) (A + 2 + 2) g ca cl cc w1) := fun m h1 h2 =>
    cur_among (-1) 13 w.heap.size 0 m 11 (A + 2) g ca cl cc w1 hi1 (by omega) (by omega) (by omega) (fun j hj => hcell.out j (by omega)) (by omega)
  replace hq := Lib.hid hq
  clear hi1
  have hk3 : k = 0 ∨ k = 1 ∨ k = 2 := by omega
  rcases hk3 with rfl | rfl | rfl
  all_goals
    go_wp2_with fail
    refine (hq.out _ (by decide) (by decide)).mono ?_
    rintro e w2 ⟨_, ⟨z, hz0, hz1, rfl⟩, rfl, hi2, hc2⟩
    have S2 := S1.out.turn hi2 hc2
    have hC := S2.chg
    clear S1 S2 hc2 hq hcell
    go_wp2_with fail
    go_ret
    exact ⟨_, ⟨z, hz0, hz1, rfl⟩, rfl, hi2, hC⟩

theorem lit_three13 {w1 : World} {vars : Int} {g A cl cc : Nat} {ca : Option Addr} (h : CurIs A g ca cl cc w1) (hv : -1 ≤ vars ∧ vars ≤ 13) (hA : A ≤ 80000000) :
    Calls Try.prog 30 #[.pointer (some ⟨g, 0, none⟩), .slice (some ⟨w1.heap.size, 0, none⟩) 3 3] (w1.alloc (.cells #[.int .i64 0, .int .i64 (vars + 1), .int .i64 (-vars - 1)] 3)) (CurPost (IntIn (-14) 14) (A + 2) g ca cl cc (w1.alloc (.cells #[.int .i64 0, .int .i64 (vars + 1), .int .i64 (-vars - 1)] 3))) := by
  have hg := h.lt
  refine cur_among (-14) 14 w1.heap.size 0 3 3 A g ca cl cc _ (h.grow (bal (bb _) _)) (by omega) (by decide) (by decide) (ints_new rfl fun j hj => ?_) (by omega)
  match j, hj with
  | 0, _ => exact ⟨_, rfl, by decide, by decide⟩
  | 1, _ => exact ⟨_, rfl, by omega, by omega⟩
  | 2, _ => exact ⟨_, rfl, by omega, by omega⟩

set_option maxRecDepth 100000 in
set_option maxHeartbeats 4000000 in
theorem cur_lit13 (vars : Int) (hv : -1 ≤ vars ∧ vars ≤ 13) (A g : Nat) (ca : Option Addr) (cl cc : Nat) (w : World) (h : CurIs A g ca cl cc w) (hA : A ≤ 70000000) :
    Calls Try.prog 63 #[.pointer (some ⟨g, 0, none⟩), .int .i64 vars] w (CurPost (IntIn (-14) 14) (A + 8) g ca cl cc w) := by
  have hg := h.lt
  have w1' : IntKind.i64.wrap (vars + 1) = vars + 1 := IntWalk.i64_in _ (by omega)
  have w2' : IntKind.i64.wrap (-vars) = -vars := IntWalk.i64_in _ (by omega)
  have w3' : IntKind.i64.wrap (-vars - 1) = -vars - 1 := IntWalk.i64_in _ (by omega)
  have S0 := Lib.hid (CS.start h)
  by_cases hlt : vars < 1
  · have hcall := Lib.hid (lit_three13 h hv (by omega))
    go_enter Try.func63, Try.ntmps63
    go_wp2_with fail
    refine hcall.out.mono ?_
    rintro e w2 ⟨_, ⟨z, hz0, hz1, rfl⟩, rfl, hi2, hc2⟩
    have hC := ((S0.out.alloc _).turn hi2 hc2).chg
    clear S0 hc2 hcall
    go_wp2_with fail
    go_ret
    exact ⟨_, ⟨z, hz0, hz1, rfl⟩, rfl, hi2.mono (by omega), hC⟩
  · go_enter Try.func63, Try.ntmps63
    go_wp2_with fail
    refine (cur_one 40 A g ca cl cc w h (by omega) (by omega)).mono ?_
    rintro e w1 ⟨_, ⟨q, rfl⟩, rfl, hi1, hc1⟩
    have S1 := Lib.hid (S0.out.turn hi1 hc1)
    have hg1 := hi1.lt
    clear S0 hc1
    cases q
    · go_wp2_with fail
      refine (cur_pick_at (lo := 0) (hi := vars - 1) hi1 (by omega) (by omega) (by omega) (by omega) (by omega)).mono ?_
      rintro e w2 ⟨_, ⟨x, hx0, hx1, rfl⟩, rfl, hi2, hc2⟩
      have S2 := Lib.hid (S1.out.turn hi2 hc2)
      have w4 : IntKind.i64.wrap (1 + x) = 1 + x := IntWalk.i64_in _ (by omega)
      have w5 : IntKind.i64.wrap (-(1 + x)) = -(1 + x) := IntWalk.i64_in _ (by omega)
      clear S1 hc2
      go_wp2_with fail
      refine (cur_one 2 _ g ca cl cc _ hi2 (by omega) (by omega)).mono ?_
      rintro e w3 ⟨_, ⟨q, rfl⟩, rfl, hi3, hc3⟩
      have hC := (S2.out.turn hi3 hc3).chg
      clear S2 hc3
      cases q
      · go_wp2_with fail
        go_ret
        exact ⟨_, ⟨1 + x, by omega, by omega, rfl⟩, rfl, hi3.mono (by omega), hC⟩
      · go_wp2_with fail
        go_ret
        exact ⟨_, ⟨-(1 + x), by omega, by omega, rfl⟩, rfl, hi3.mono (by omega), hC⟩
    · have hcall := Lib.hid (lit_three13 hi1 hv (by omega))
      go_wp2_with fail
      refine hcall.out.mono ?_
      rintro e w2 ⟨_, ⟨z, hz0, hz1, rfl⟩, rfl, hi2, hc2⟩
      have hC := ((S1.out.alloc _).turn hi2 hc2).chg
      clear S1 hc2 hcall
      go_wp2_with fail
      go_ret
      exact ⟨_, ⟨z, hz0, hz1, rfl⟩, rfl, hi2.mono (by omega), hC⟩

theorem among_four {w1 : World} {vars : Int} {g A cl cc : Nat} {ca : Option Addr} (h : CurIs A g ca cl cc w1) (hv : -1 ≤ vars ∧ vars ≤ 13) (hA : A ≤ 80000000) :
    Calls Try.prog 30 #[.pointer (some ⟨g, 0, none⟩), .slice (some ⟨w1.heap.size, 0, none⟩) 4 4] (w1.alloc (.cells #[.int .i64 0, .int .i64 (vars + 1), .int .i64 (-vars - 1), .int .i64 (-9223372036854775808)] 3)) (CurPost (IntIn (-9223372036854775808) 14) (A + 2) g ca cl cc (w1.alloc (.cells #[.int .i64 0, .int .i64 (vars + 1), .int .i64 (-vars - 1), .int .i64 (-9223372036854775808)] 3))) := by
  have hg := h.lt
  refine cur_among (-9223372036854775808) 14 w1.heap.size 0 4 4 A g ca cl cc _ (h.grow (bal (bb _) _)) (by omega) (by decide) (by decide) (ints_new rfl fun j hj => ?_) (by omega)
  match j, hj with
  | 0, _ => exact ⟨_, rfl, by decide, by decide⟩
  | 1, _ => exact ⟨_, rfl, by omega, by omega⟩
  | 2, _ => exact ⟨_, rfl, by omega, by omega⟩
  | 3, _ => exact ⟨_, rfl, by decide, by decide⟩
def AllI (c : List Int) : Prop := ∀ x ∈ c, I64 x
theorem rowPost_of {n : Nat} {R : List Int → Prop} {A A0 g : Nat} {ca : Option Addr} {cl cc : Nat} {w w' : World} {ps : List Asn} {i : Nat} {B : Option Addr} {cap : Nat} {c : List Int} (h : CS w g ca cl cc A0 w' ps)
    (hi : ps[i]? = some (Own 3 1 (.slice B c.length cap) c.length (c.map (.int .i64)))) (hl : c.length ≤ n) (hR : R c) (hA : A0 ≤ A) : RowPost n R A g ca cl cc w (.returned (.slice B c.length cap)) w' :=
  ⟨_, c, rfl, h.owns_end hi, hl, hR, h.cur.mono hA, h.chg⟩

set_option maxRecDepth 100000 in
set_option maxHeartbeats 8000000 in
theorem cur_anyClause (vars : Int) (hv : -1 ≤ vars ∧ vars ≤ 13) (A g : Nat) (ca : Option Addr) (cl cc : Nat) (w : World) (h : CurIs A g ca cl cc w) (hA : A ≤ 50000000) :
    Calls Try.prog 40 #[.pointer (some ⟨g, 0, none⟩), .int .i64 vars] w (RowPost 5 AllI (A + 80) g ca cl cc w) := by
  have hg := h.lt
  have S0 := Lib.hid (CS.start h)
  have w1' : IntKind.i64.wrap (vars + 1) = vars + 1 := IntWalk.i64_in _ (by omega)
  have w2' : IntKind.i64.wrap (-vars) = -vars := IntWalk.i64_in _ (by omega)
  have w3' : IntKind.i64.wrap (-vars - 1) = -vars - 1 := IntWalk.i64_in _ (by omega)
  go_enter Try.func40, Try.ntmps40
  go_wp2_with fail
  refine (cur_clause vars hv A g ca cl cc w h (by omega)).mono ?_
  rintro e w1 ⟨v, c, rfl, ho, hl, hW, hi1, hc1⟩
  have hne := owns_ge ho
  obtain ⟨B, cap, rfl⟩ := own_slice ho
  have hI := Lib.hid (hW.i64 (by decide))
  have S1 : Hid (CS w g ca cl cc (A + 60) w1 [Own 3 1 (.slice B c.length cap) c.length (c.map (.int .i64))]) := by
    refine ⟨⟨A, h⟩, hi1, hc1, _, ⟨(Value.slice B c.length cap).ownBlock.toList, [], by rw [List.append_nil], by simp, ⟨rfl, owns_zero ho⟩, rfl⟩, fun b hb => ?_⟩
    exact hne b (by simpa using hb)
  clear ho hW hi1 hc1 hne S0
  have hcur := Lib.hid S1.out.cur
  go_wp2_with fail
  refine (cur_pick_at (lo := 0) (hi := 31) hcur.out (by omega) (by omega) (by omega) (by omega) (by omega)).mono ?_
  rintro e w2 ⟨_, ⟨x, hx0, hx1, rfl⟩, rfl, hi2, hc2⟩
  have S2 := Lib.hid (S1.out.turn hi2 hc2)
  clear S1 hcur hi2 hc2
  have hx5 : x = 0 ∨ x = 1 ∨ x = 2 ∨ 2 < x := by omega
  rcases hx5 with rfl | rfl | rfl | hx5
  · have hlit := Lib.hid (cur_lit13 vars hv _ g ca cl cc _ S2.out.cur (by omega))
    obtain ⟨i0, hi0, hz0, hz1, hz2⟩ := info_parts infoInt
    go_wp2_with fail
    refine hlit.out.mono ?_
    rintro e w3 ⟨_, ⟨z, hz3, hz4, rfl⟩, rfl, hi3, hc3⟩
    have S3 := (S2.out.turn hi3 hc3).alloc_box #[.int .i64 z] 3
    have kB := S3.cell (i := 0) rfl (o := 0) rfl
    replace S3 := Lib.hid S3
    clear S2 hlit hi3 hc3
    go_wp2_with (at_builtin; refine wpList_append_src rfl _ _ rfl Try.underlying24 hi0 hz0 hz1 hz2 rfl (by decide) _ _ _ rfl (S3.out.own (i := 1) rfl) _ 1 1 [.int .i64 z] rfl (Src.one kB) (by simp [Value.oneCell']) ?c3 ?c4 ?_)
    case c3 => unfold maxLen; omega
    case c4 => omega
    intro vY wY hownY hgY hatY
    have S4 := (S3.out.own_push (i := 1) rfl (bb _) hownY hgY (by simpa using hatY)).tail
    obtain ⟨aY, cY, rfl⟩ := own_slice hownY
    have hlen : c.length + 1 = (c ++ [z]).length := by simp
    have hI2 : AllI (c ++ [z]) := fun y hy => by
      rcases List.mem_append.1 hy with hy | hy
      · exact hI.out y hy
      · obtain rfl : y = z := by simpa using hy
        unfold I64; omega
    have S5 : CS w g ca cl cc (A + 60 + 10 + 8) wY [Own 3 1 (.slice aY (c ++ [z]).length cY) (c ++ [z]).length ((c ++ [z]).map (.int .i64))] := by
      rw [← hlen, List.map_append]; exact S4.mono (by omega)
    have hl2 : (c ++ [z]).length ≤ 5 := by omega
    rw [hlen]
    generalize c ++ [z] = c2 at *
    have hP := Lib.hid (rowPost_of (n := 5) (R := AllI) (A := A + 80) S5 (i := 0) rfl hl2 hI2 (by omega))
    clear S3 S4 S5 hlen hI2 hl2 kB hownY hgY hatY
    go_wp2_with fail
    go_ret
    exact hP.out
  · by_cases hl0 : 0 < c.length
    · have d0 : decide ((0 : Int) < (c.length : Int)) = true := decide_eq_true (by omega)
      have hcall := Lib.hid (among_four S2.out.cur hv (by omega))
      go_wp2_with fail
      refine hcall.out.mono ?_
      rintro e w3 ⟨_, ⟨z, hz3, hz4, rfl⟩, rfl, hi3, hc3⟩
      have S3 := (S2.out.alloc _).turn hi3 hc3
      obtain ⟨gx, cap', cur, e1, -, hh, -, -, -, ht⟩ := own_block (S3.own (i := 0) rfl) hl0
      simp only [Value.slice.injEq] at e1
      obtain ⟨rfl, -, rfl⟩ := e1
      have hcx := (own_at hh ht (o := 0) (by omega)).1
      have hfx := (own_at hh ht (o := 0) (by omega)).2
      have S4 := S3.own_put (i := 0) rfl (.int .i64 z) (o := 0) (by omega)
      have hI2 : AllI (c.set 0 z) := fun y hy => by
        rcases List.mem_or_eq_of_mem_set hy with hy | rfl
        · exact hI.out y hy
        · unfold I64; omega
      have hlen : (c.set 0 z).length = c.length := by simp
      have S5 : CS w g ca cl cc (A + 80) (w3.setCell ⟨gx, 0, none⟩ (.int .i64 z)) [Own 3 1 (.slice (some ⟨gx, 0, none⟩) (c.set 0 z).length cap) (c.set 0 z).length ((c.set 0 z).map (.int .i64))] := by
        rw [hlen, List.map_set]; exact S4.mono (by omega)
      have hP := rowPost_of (n := 5) (R := AllI) (A := A + 80) S5 (i := 0) rfl (by omega) hI2 (by omega)
      rw [hlen] at hP
      replace hP := Lib.hid hP
      have hcx' : ∃ u, w3.cell? ⟨gx, 0, none⟩ = some u := by
        rw [hcx]
        exact ⟨_, List.getElem?_eq_getElem (by simp; omega)⟩
      obtain ⟨u, hu⟩ := hcx'
      clear S2 S3 S4 S5 hI2 hh ht hcx hi3 hc3 hcall hlen
      go_wp2_with fail
      go_ret
      exact hP.out
    · have d0 : decide ((0 : Int) < (c.length : Int)) = false := decide_eq_false (by omega)
      have hP := Lib.hid (rowPost_of (n := 5) (R := AllI) (A := A + 80) S2.out (i := 0) rfl (by omega) hI.out (by omega))
      clear S2
      go_wp2_with fail
      go_ret
      exact hP.out
  · by_cases hl0 : 1 < c.length
    · have d0 : decide ((1 : Int) < (c.length : Int)) = true := decide_eq_true (by omega)
      obtain ⟨gx, cap', cur, e1, -, hh, -, -, -, ht⟩ := own_block (S2.out.own (i := 0) rfl) (by omega)
      simp only [Value.slice.injEq] at e1
      obtain ⟨rfl, -, rfl⟩ := e1
      obtain ⟨x0, hx0'⟩ : ∃ z, (c.map (Value.int .i64))[0]? = some (.int .i64 z) ∧ c[0]? = some z := ⟨c[0], by rw [List.getElem?_map, List.getElem?_eq_getElem]; rfl, List.getElem?_eq_getElem _⟩
      obtain ⟨x1, hx1'⟩ : ∃ z, (c.map (Value.int .i64))[1]? = some (.int .i64 z) ∧ c[1]? = some z := ⟨c[1], by rw [List.getElem?_map, List.getElem?_eq_getElem]; rfl, List.getElem?_eq_getElem _⟩
      have k0 := (own_at hh ht (o := 0) (by omega)).1.trans hx0'.1
      have k1 := (own_at hh ht (o := 1) (by omega)).1.trans hx1'.1
      have f0 := (own_at hh ht (o := 0) (by omega)).2
      have f1 := (own_at hh ht (o := 1) (by omega)).2
      have S3 := S2.out.own_put (i := 0) rfl (.int .i64 x1) (o := 0) (by omega)
      have S4 := S3.own_put (i := 0) rfl (.int .i64 x0) (o := 1) (by omega)
      have hI2 : AllI ((c.set 0 x1).set 1 x0) := fun y hy => by
        rcases List.mem_or_eq_of_mem_set hy with hy | rfl
        · rcases List.mem_or_eq_of_mem_set hy with hy | rfl
          · exact hI.out y hy
          · exact hI.out _ (List.mem_of_getElem? hx1'.2)
        · exact hI.out _ (List.mem_of_getElem? hx0'.2)
      have hlen : ((c.set 0 x1).set 1 x0).length = c.length := by simp
      have S5 : CS w g ca cl cc (A + 80) ((w2.setCell ⟨gx, 0, none⟩ (.int .i64 x1)).setCell ⟨gx, 1, none⟩ (.int .i64 x0)) [Own 3 1 (.slice (some ⟨gx, 0, none⟩) ((c.set 0 x1).set 1 x0).length cap) ((c.set 0 x1).set 1 x0).length (((c.set 0 x1).set 1 x0).map (.int .i64))] := by
        rw [hlen, List.map_set, List.map_set]; exact S4.mono (by omega)
      have hP := rowPost_of (n := 5) (R := AllI) (A := A + 80) S5 (i := 0) rfl (by omega) hI2 (by omega)
      rw [hlen] at hP
      replace hP := Lib.hid hP
      have hI64a : I64 x0 := hI.out _ (List.mem_of_getElem? hx0'.2)
      have hI64b : I64 x1 := hI.out _ (List.mem_of_getElem? hx1'.2)
      clear S2 S3 S4 S5 hI2 hh ht hlen hx0' hx1'
      go_wp2_with fail
      go_ret
      exact hP.out
    · have d0 : decide ((1 : Int) < (c.length : Int)) = false := decide_eq_false (by omega)
      have hP := Lib.hid (rowPost_of (n := 5) (R := AllI) (A := A + 80) S2.out (i := 0) rfl (by omega) hI.out (by omega))
      clear S2
      go_wp2_with fail
      go_ret
      exact hP.out
  · have x0 : (x == 0) = false := by simp; omega
    have x1 : (x == 1) = false := by simp; omega
    have x2 : (x == 2) = false := by simp; omega
    have hP := Lib.hid (rowPost_of (n := 5) (R := AllI) (A := A + 80) S2.out (i := 0) rfl (by omega) hI.out (by omega))
    clear S2
    go_wp2_with fail
    go_ret
    exact hP.out
end Go.Proofs.Ytcdgpekefiplnaa
