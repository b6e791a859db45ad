/- Lemmas and contracts for a law, put together out of several texts: CtP SdN CtR CtQ CuC CuD AsL AsM. -/
import Derived.Test.YtahbepajeplcmaaGreatMg11
import Derived.Test.YtahbepajeplcmaaGreatMg8
/- Contracts: two Cnfs as one, where one is not valid, on both sides. -/
namespace Go.Proofs.YtahbepajeplcmaaGreat
open Go.RowKit

theorem l2Good_q {vars : Int} {v : Value} {xss : List (List Int)} {F : List Nat} {w : World} {q : Bool} (hx : (Ty.slice Ty.int).row false w v xss F) (h : goodB vars xss = q) :
    Calls Tryz.prog 51 #[.agg #[.int .i64 vars, v]] w fun e w' => e = .returned (.bool q) ∧ Below w.heap.size w w' := h ▸ l2Good_any vars v xss F w hx

set_option maxRecDepth 100000 in
set_option maxHeartbeats 8000000 in
theorem bothNo_any (va vb : Int) (A1 A2 : Option Addr) (p1 p2 : Nat) (xss yss : List (List Int)) (F1 F2 : List Nat) (w : World) (hx : (Ty.slice Ty.int).row false w (.slice A1 xss.length p1) xss F1) (hy : (Ty.slice Ty.int).row false w (.slice A2 yss.length p2) yss F2) (hno : (goodB va xss && goodB vb yss) = false) :
    Calls Tryz.prog 11 #[.agg #[.int .i64 va, .slice A1 xss.length p1], .agg #[.int .i64 vb, .slice A2 yss.length p2]] w (CnfR w 0 [] false) := by
  have S0 := (((Sp.start w).alloc_box #[.int .i64 va, .slice A1 xss.length p1] 28).alloc_box #[.int .i64 vb, .slice A2 yss.length p2] 28).alloc_box #[.int .i64 0, .slice none 0 0] 28
  simp only [World.size_alloc] at S0
  have hi1 := Lib.hid (fun W (h : Below w.heap.size w W) => isCnf_q (Ty.row_below hx h (Ty.row_lt hx)) (rfl : goodB va xss = _))
  have hi2 := Lib.hid (fun W (h : Below w.heap.size w W) => isCnf_q (Ty.row_below hy h (Ty.row_lt hy)) (rfl : goodB vb yss = _))
  have c0 := S0.cell (i := 2) rfl (o := 0) rfl
  have c1 := S0.cell (i := 2) rfl (o := 1) rfl
  replace S0 := Lib.hid S0
  clear hx hy
  cases h1 : goodB va xss with
  | false =>
    rw [h1] at hi1
    clear hi2 hno h1
    go_enter Tryz.func11, Tryz.ntmps11
    go_wp2_with fail
    refine (hi1.out _ S0.out.below).mono ?_
    rintro e w1 ⟨rfl, hb1⟩
    clear c0 c1 hi1
    have S1 := S0.out.grow hb1
    have r0 := S1.cell (i := 0) rfl (o := 0) rfl
    have r1 := S1.cell (i := 0) rfl (o := 1) rfl
    have f0 := S1.frozen (i := 0) rfl 0
    have f1 := S1.frozen (i := 0) rfl 1
    have SF := (S1.store (i := 0) rfl 0 (.int .i64 0)).store (i := 0) rfl 1 (.slice none 0 0)
    have j0 := SF.cell (i := 0) rfl (o := 0) rfl
    have j1 := SF.cell (i := 0) rfl (o := 1) rfl
    have hB := Lib.hid SF.below
    clear S1 SF hb1
    go_wp2_with fail
    exact bodyPost_ret (v := .tuple #[.agg #[.int .i64 0, .slice none 0 0], .bool false]) (by simp [results, Tryz.results11, go_sem, j0, j1]) rfl ⟨none, 0, [], rfl, Ty.row_nil _ _ _ _ _ (by decide), hB.out⟩
  | true =>
    rw [h1, Bool.true_and] at hno
    rw [h1] at hi1
    rw [hno] at hi2
    clear hno h1
    go_enter Tryz.func11, Tryz.ntmps11
    go_wp2_with fail
    refine (hi1.out _ S0.out.below).mono ?_
    rintro e w1 ⟨rfl, hb1⟩
    have S1 := S0.out.grow hb1
    have d0 := S1.cell (i := 1) rfl (o := 0) rfl
    have d1 := S1.cell (i := 1) rfl (o := 1) rfl
    replace S1 := Lib.hid S1
    clear S0 hb1 c0 c1 hi1
    go_wp2_with fail
    refine (hi2.out _ S1.out.below).mono ?_
    rintro e w2 ⟨rfl, hb2⟩
    clear d0 d1 hi2
    have S2 := S1.out.grow hb2
    have r0 := S2.cell (i := 0) rfl (o := 0) rfl
    have r1 := S2.cell (i := 0) rfl (o := 1) rfl
    have f0 := S2.frozen (i := 0) rfl 0
    have f1 := S2.frozen (i := 0) rfl 1
    have SF := (S2.store (i := 0) rfl 0 (.int .i64 0)).store (i := 0) rfl 1 (.slice none 0 0)
    have j0 := SF.cell (i := 0) rfl (o := 0) rfl
    have j1 := SF.cell (i := 0) rfl (o := 1) rfl
    have hB := Lib.hid SF.below
    clear S2 SF hb2
    go_wp2_with fail
    exact bodyPost_ret (v := .tuple #[.agg #[.int .i64 0, .slice none 0 0], .bool false]) (by simp [results, Tryz.results11, go_sem, j0, j1]) rfl ⟨none, 0, [], rfl, Ty.row_nil _ _ _ _ _ (by decide), hB.out⟩

set_option maxRecDepth 100000 in
set_option maxHeartbeats 8000000 in
theorem specBothNo_any (va vb : Int) (A1 A2 : Option Addr) (p1 p2 : Nat) (xss yss : List (List Int)) (F1 F2 : List Nat) (w : World) (hx : (Ty.slice Ty.int).row false w (.slice A1 xss.length p1) xss F1) (hy : (Ty.slice Ty.int).row false w (.slice A2 yss.length p2) yss F2) (hno : (goodB va xss && goodB vb yss) = false) :
    Calls Tryz.prog 19 #[.agg #[.int .i64 va, .slice A1 xss.length p1], .agg #[.int .i64 vb, .slice A2 yss.length p2]] w (CnfR w 0 [] false) := by
  have S0 := (((Sp.start w).alloc_box #[.int .i64 va, .slice A1 xss.length p1] 28).alloc_box #[.int .i64 vb, .slice A2 yss.length p2] 28).alloc_box #[.int .i64 0, .slice none 0 0] 28
  simp only [World.size_alloc] at S0
  have hi1 := Lib.hid (fun W (h : Below w.heap.size w W) => l2Good_q (Ty.row_below hx h (Ty.row_lt hx)) (rfl : goodB va xss = _))
  have hi2 := Lib.hid (fun W (h : Below w.heap.size w W) => l2Good_q (Ty.row_below hy h (Ty.row_lt hy)) (rfl : goodB vb yss = _))
  have c0 := S0.cell (i := 2) rfl (o := 0) rfl
  have c1 := S0.cell (i := 2) rfl (o := 1) rfl
  replace S0 := Lib.hid S0
  clear hx hy
  cases h1 : goodB va xss with
  | false =>
    rw [h1] at hi1
    clear hi2 hno h1
    go_enter Tryz.func19, Tryz.ntmps19
    go_wp2_with fail
    refine (hi1.out _ S0.out.below).mono ?_
    rintro e w1 ⟨rfl, hb1⟩
    clear c0 c1 hi1
    have S1 := S0.out.grow hb1
    have r0 := S1.cell (i := 0) rfl (o := 0) rfl
    have r1 := S1.cell (i := 0) rfl (o := 1) rfl
    have f0 := S1.frozen (i := 0) rfl 0
    have f1 := S1.frozen (i := 0) rfl 1
    have SF := (S1.store (i := 0) rfl 0 (.int .i64 0)).store (i := 0) rfl 1 (.slice none 0 0)
    have j0 := SF.cell (i := 0) rfl (o := 0) rfl
    have j1 := SF.cell (i := 0) rfl (o := 1) rfl
    have hB := Lib.hid SF.below
    clear S1 SF hb1
    go_wp2_with fail
    exact bodyPost_ret (v := .tuple #[.agg #[.int .i64 0, .slice none 0 0], .bool false]) (by simp [results, Tryz.results19, go_sem, j0, j1]) rfl ⟨none, 0, [], rfl, Ty.row_nil _ _ _ _ _ (by decide), hB.out⟩
  | true =>
    rw [h1, Bool.true_and] at hno
    rw [h1] at hi1
    rw [hno] at hi2
    clear hno h1
    go_enter Tryz.func19, Tryz.ntmps19
    go_wp2_with fail
    refine (hi1.out _ S0.out.below).mono ?_
    rintro e w1 ⟨rfl, hb1⟩
    have S1 := S0.out.grow hb1
    have d0 := S1.cell (i := 1) rfl (o := 0) rfl
    have d1 := S1.cell (i := 1) rfl (o := 1) rfl
    replace S1 := Lib.hid S1
    clear S0 hb1 c0 c1 hi1
    go_wp2_with fail
    refine (hi2.out _ S1.out.below).mono ?_
    rintro e w2 ⟨rfl, hb2⟩
    clear d0 d1 hi2
    have S2 := S1.out.grow hb2
    have r0 := S2.cell (i := 0) rfl (o := 0) rfl
    have r1 := S2.cell (i := 0) rfl (o := 1) rfl
    have f0 := S2.frozen (i := 0) rfl 0
    have f1 := S2.frozen (i := 0) rfl 1
    have SF := (S2.store (i := 0) rfl 0 (.int .i64 0)).store (i := 0) rfl 1 (.slice none 0 0)
    have j0 := SF.cell (i := 0) rfl (o := 0) rfl
    have j1 := SF.cell (i := 0) rfl (o := 1) rfl
    have hB := Lib.hid SF.below
    clear S2 SF hb2
    go_wp2_with fail
    exact bodyPost_ret (v := .tuple #[.agg #[.int .i64 0, .slice none 0 0], .bool false]) (by simp [results, Tryz.results19, go_sem, j0, j1]) rfl ⟨none, 0, [], rfl, Ty.row_nil _ _ _ _ _ (by decide), hB.out⟩

set_option maxRecDepth 100000 in
set_option maxHeartbeats 8000000 in
theorem apartNo_any (va vb : Int) (A1 A2 : Option Addr) (p1 p2 : Nat) (xss yss : List (List Int)) (F1 F2 : List Nat) (w : World) (hx : (Ty.slice Ty.int).row false w (.slice A1 xss.length p1) xss F1) (hy : (Ty.slice Ty.int).row false w (.slice A2 yss.length p2) yss F2) (hno : (goodB va xss && goodB vb yss) = false) :
    Calls Tryz.prog 17 #[.agg #[.int .i64 va, .slice A1 xss.length p1], .agg #[.int .i64 vb, .slice A2 yss.length p2]] w (CnfR w 0 [] false) := by
  have S0 := (((Sp.start w).alloc_box #[.int .i64 va, .slice A1 xss.length p1] 28).alloc_box #[.int .i64 vb, .slice A2 yss.length p2] 28).alloc_box #[.int .i64 0, .slice none 0 0] 28
  simp only [World.size_alloc] at S0
  have hi1 := Lib.hid (fun W (h : Below w.heap.size w W) => isCnf_q (Ty.row_below hx h (Ty.row_lt hx)) (rfl : goodB va xss = _))
  have hi2 := Lib.hid (fun W (h : Below w.heap.size w W) => isCnf_q (Ty.row_below hy h (Ty.row_lt hy)) (rfl : goodB vb yss = _))
  have c0 := S0.cell (i := 2) rfl (o := 0) rfl
  have c1 := S0.cell (i := 2) rfl (o := 1) rfl
  replace S0 := Lib.hid S0
  clear hx hy
  cases h1 : goodB va xss with
  | false =>
    rw [h1] at hi1
    clear hi2 hno h1
    go_enter Tryz.func17, Tryz.ntmps17
    go_wp2_with fail
    refine (hi1.out _ S0.out.below).mono ?_
    rintro e w1 ⟨rfl, hb1⟩
    clear c0 c1 hi1
    have S1 := S0.out.grow hb1
    have r0 := S1.cell (i := 0) rfl (o := 0) rfl
    have r1 := S1.cell (i := 0) rfl (o := 1) rfl
    have f0 := S1.frozen (i := 0) rfl 0
    have f1 := S1.frozen (i := 0) rfl 1
    have SF := (S1.store (i := 0) rfl 0 (.int .i64 0)).store (i := 0) rfl 1 (.slice none 0 0)
    have j0 := SF.cell (i := 0) rfl (o := 0) rfl
    have j1 := SF.cell (i := 0) rfl (o := 1) rfl
    have hB := Lib.hid SF.below
    clear S1 SF hb1
    go_wp2_with fail
    exact bodyPost_ret (v := .tuple #[.agg #[.int .i64 0, .slice none 0 0], .bool false]) (by simp [results, Tryz.results17, go_sem, j0, j1]) rfl ⟨none, 0, [], rfl, Ty.row_nil _ _ _ _ _ (by decide), hB.out⟩
  | true =>
    rw [h1, Bool.true_and] at hno
    rw [h1] at hi1
    rw [hno] at hi2
    clear hno h1
    go_enter Tryz.func17, Tryz.ntmps17
    go_wp2_with fail
    refine (hi1.out _ S0.out.below).mono ?_
    rintro e w1 ⟨rfl, hb1⟩
    have S1 := S0.out.grow hb1
    have d0 := S1.cell (i := 1) rfl (o := 0) rfl
    have d1 := S1.cell (i := 1) rfl (o := 1) rfl
    replace S1 := Lib.hid S1
    clear S0 hb1 c0 c1 hi1
    go_wp2_with fail
    refine (hi2.out _ S1.out.below).mono ?_
    rintro e w2 ⟨rfl, hb2⟩
    clear d0 d1 hi2
    have S2 := S1.out.grow hb2
    have r0 := S2.cell (i := 0) rfl (o := 0) rfl
    have r1 := S2.cell (i := 0) rfl (o := 1) rfl
    have f0 := S2.frozen (i := 0) rfl 0
    have f1 := S2.frozen (i := 0) rfl 1
    have SF := (S2.store (i := 0) rfl 0 (.int .i64 0)).store (i := 0) rfl 1 (.slice none 0 0)
    have j0 := SF.cell (i := 0) rfl (o := 0) rfl
    have j1 := SF.cell (i := 0) rfl (o := 1) rfl
    have hB := Lib.hid SF.below
    clear S2 SF hb2
    go_wp2_with fail
    exact bodyPost_ret (v := .tuple #[.agg #[.int .i64 0, .slice none 0 0], .bool false]) (by simp [results, Tryz.results17, go_sem, j0, j1]) rfl ⟨none, 0, [], rfl, Ty.row_nil _ _ _ _ _ (by decide), hB.out⟩

end Go.Proofs.YtahbepajeplcmaaGreat

/- Contracts: a Cnf copied, and its sides exchanged, in the reference. -/
namespace Go.Proofs.YtahbepajeplcmaaGreat
open Go.RowKit

theorem all_clsV {wr : Bool} {w : World} : ∀ {cs : List Value} {xss : List (List Int)} {F : List Nat}, (Ty.slice Ty.int).all wr w cs xss F → ClsV w cs xss ∧ ∀ u ∈ cs, u.oneCell' = true
  | _, [], _, h => by
    obtain ⟨rfl, _⟩ := h
    exact ⟨⟨rfl, fun j hj => absurd hj (by simp)⟩, by simp⟩
  | _, x :: xs, _, h => by
    obtain ⟨c, d, F1, F2, rfl, rfl, ⟨v, rfl, hr⟩, h2⟩ := h
    obtain ⟨A, cap, rfl, hI⟩ := ints_row hr
    obtain ⟨h3, h4⟩ := all_clsV h2
    have h1 : ClsV w [.slice A x.length cap] [x] := ⟨rfl, fun j hj => by
      obtain rfl : j = 0 := by simpa using hj
      exact ⟨A, cap, rfl, hI⟩⟩
    exact ⟨h1.append h3, fun u hu => by
      rcases List.mem_append.1 hu with hu | hu
      · obtain rfl : u = _ := List.mem_singleton.1 hu
        rfl
      · exact h4 u hu⟩
section
variable {w0 W : World} {ps : List Asn} {i : Nat} {e : TypeId} {B : Option Addr} {cap : Nat} {cs : List Value} {xss : List (List Int)}
theorem rows_clsV (h : Sp w0 W ps) (hi : ps[i]? = some (Rows Ty.int e (.slice B xss.length cap) cs xss)) : ClsV W cs xss ∧ ∀ u ∈ cs, u.oneCell' = true := by
  obtain ⟨F, ⟨G, -, -, hall, -⟩, -⟩ := h.get hi
  exact all_clsV hall
theorem rows_srcV (h : Sp w0 W ps) (hi : ps[i]? = some (Rows Ty.int e (.slice B xss.length cap) cs xss)) : Src W B xss.length 1 cs := by
  have ho := h.rows hi
  have hn : cs.length = xss.length := by have := ho.1; omega
  rcases Nat.eq_zero_or_pos xss.length with h0 | h0
  · exact .inl ⟨h0, List.length_eq_zero_iff.1 (by omega)⟩
  · obtain ⟨g, cap', cur, e1, -, hh, -, -, -, ht⟩ := own_block ho h0
    simp only [Value.slice.injEq] at e1
    obtain ⟨rfl, -, rfl⟩ := e1
    refine .inr ⟨_, rfl, by omega, fun j u hj => ?_⟩
    have hjl := (List.getElem?_eq_some_iff.1 hj).1
    rw [add_none, Nat.zero_add, (own_at hh ht (o := j) (by omega)).1]; exact hj
end
theorem ClsV.drop {w : World} {us : List Value} {xss : List (List Int)} (h : ClsV w us xss) (k : Nat) : ClsV w (us.drop k) (xss.drop k) := ⟨by rw [List.length_drop, List.length_drop, h.1], fun j hj => by
  rw [List.length_drop] at hj
  obtain ⟨B, c, h1, h2⟩ := h.2 (k + j) (by omega)
  exact ⟨B, c, by rw [List.getElem?_drop, List.getElem_drop]; exact h1, by rw [List.getElem_drop]; exact h2⟩⟩
theorem ClsV.take {w : World} {us : List Value} {xss : List (List Int)} (h : ClsV w us xss) (k : Nat) : ClsV w (us.take k) (xss.take k) := ⟨by rw [List.length_take, List.length_take, h.1], fun j hj => by
  rw [List.length_take] at hj
  obtain ⟨B, c, h1, h2⟩ := h.2 j (by omega)
  exact ⟨B, c, by rw [List.getElem?_take_of_lt (by omega), List.getElem_take]; exact h1, by rw [List.getElem_take]; exact h2⟩⟩
theorem rows_fromV {w0 W : World} {ps : List Asn} {i : Nat} {e : TypeId} {B : Option Addr} {cap k : Nat} {cs : List Value} {xss : List (List Int)} (h : Sp w0 W ps) (hi : ps[i]? = some (Rows Ty.int e (.slice B xss.length cap) cs xss)) (hk : k ≤ xss.length) (hm : xss.length ≤ cap) : Src W (cutA B cap k 1) (xss.length - k) 1 (cs.drop k) := by
  have hs := rows_srcV h hi
  obtain ⟨-, ⟨e1, -⟩ | ⟨g, cap', cur, e1, -⟩⟩ := h.rows hi
  · simp only [Value.slice.injEq] at e1
    obtain ⟨rfl, -, -⟩ := e1
    have := hs.from_nil (cap := cap) hk; rwa [Nat.mul_one] at this
  · simp only [Value.slice.injEq] at e1
    obtain ⟨rfl, -, -⟩ := e1
    have := hs.from hk hm; rwa [Nat.mul_one] at this

set_option maxRecDepth 100000 in
set_option maxHeartbeats 4000000 in
theorem l2Own_any (vars : Int) (A : Option Addr) (cap : Nat) (xss : List (List Int)) (w : World) (hx : ClsAt w A xss) (hl : xss.length ≤ 1000) (hs : ∀ c ∈ xss, c.length ≤ 1000000) :
    Calls Tryz.prog 52 #[.agg #[.int .i64 vars, .slice A xss.length cap]] w fun e w' => ∃ B cc cs, e = .returned (.agg #[.int .i64 vars, .slice B xss.length cc]) ∧ Sp w w' [Rows Ty.int 35 (.slice B xss.length cc) cs xss] := by
  obtain ⟨i1, hi, hz0, hz1, hz2⟩ := info_parts infoRow
  have S0 := ((((Sp.start w).alloc_box #[.int .i64 vars, .slice A xss.length cap] 28).alloc_box #[.int .i64 0, .slice none 0 0] 28).rows_made Ty.int 35)
  simp only [World.size_alloc] at S0
  have S1 := S0.alloc_box #[.int .i64 vars, .slice (some ⟨w.heap.size + 1 + 1, 0, none⟩) 0 0] 28
  simp only [World.size_alloc] at S1
  have hX := Lib.hid hx
  have hS := Lib.hid hs
  clear hx hs
  have c0 := S1.cell (i := 3) rfl (o := 0) rfl
  have S1H := Lib.hid S1
  clear S1 S0
  obtain ⟨fo, hfo⟩ : ∃ f, w.heap.size + 1 + 1 + 1 = f := ⟨_, rfl⟩
  rw [hfo] at S1H
  go_enter Tryz.func52, Tryz.ntmps52
  go_wp2_with fail
  go_loopw [4] (fun v4 wr => ∃ (k : Nat) (B : Option Addr) (cc : Nat) (cs : List Value) (ys : List (List Int)), k ≤ xss.length ∧ v4 = .int .i64 k ∧ ys.length ≤ 1000 ∧ Hid (ys = xss.take k) ∧ Hid (Sp w wr [Box fo 28 #[.int .i64 vars, .slice B ys.length cc], Rows Ty.int 35 (.slice B ys.length cc) cs ys, Box (w.heap.size + 1) 28 #[.int .i64 0, .slice none 0 0], Box w.heap.size 28 #[.int .i64 vars, .slice A xss.length cap]])) (fun v4 _ => xss.length - (intOf v4).toNat)
  case atStart => exact ⟨0, _, 0, [], [], Nat.zero_le _, rfl, by simp, rfl, S1H⟩
  case round =>
    clear S1H
    obtain ⟨k, B, cc, cs, ys, hk, rfl, hyl, hys, HS⟩ := hrel
    have d1 := HS.out.cell (i := 3) rfl (o := 1) rfl
    by_cases hlt : k < xss.length
    · obtain ⟨ab, aoff, D, dc, rfl, m0, hI⟩ := hX.out.at_ k hlt
      have n0 := cell_below m0 HS.out.below
      have l1 := HS.out.cell (i := 0) rfl (o := 1) rfl
      have HSd := Lib.hid HS.out.drew
      have hcl := Lib.hid (l1OwnI_any D dc xss[k] _ (hI.grow HSd.out.below) (hS.out _ (List.getElem_mem hlt)))
      have hok := Lib.hid hI.ok
      have hnx : Hid (ys ++ [xss[k]] = xss.take (k + 1)) := by unfold Hid; rw [hys.out, take_snoc hlt]
      have hlen2 : (ys ++ [xss[k]]).length ≤ 1000 := by rw [hnx.out, List.length_take]; omega
      have m0H := Lib.hid m0
      generalize xss[k] = c at *
      clear m0 hI hys HS
      replace hlen2 := Lib.hid hlen2
      go_wp2_with fail
      refine wp_region_tail_lit (S := (fun w' => w'.cell? ⟨fo, 1, none⟩ = some (.slice B ys.length cc) ∧ w'.cell? ⟨w.heap.size, 1, none⟩ = some (.slice (some ⟨ab, aoff, none⟩) xss.length cap) ∧ w'.cell? ⟨ab, aoff + k, none⟩ = some (.slice D c.length dc))) 9 [false, false, false, false, false, false, false, false, false, false, false, false] (by kernel_rfl) (by kernel_rfl) (by kernel_rfl) ?_ ?_
      · exact ⟨l1, d1, n0⟩
      intro hSc
      (refine walkT_take (i := 0) (v := ?_) rfl (by kernel_rfl) (by decide) (by kernel_rfl) (by kernel_rfl) (fun _ _ _ h => h) (Or.inl ⟨by rfl, ?_⟩) (by assumption) ?_; rotate_left; (focus (intro w hSw; (try dsimp only at hSw); go_simp; (try with_reducible rfl); done)); (try simp only [put_rules]))
      (refine walkT_take (i := 1) (v := ?_) rfl (by kernel_rfl) (by decide) (by kernel_rfl) (by kernel_rfl) (fun _ _ _ h => h) (Or.inl ⟨by rfl, ?_⟩) (by assumption) ?_; rotate_left; (focus (intro w hSw; (try dsimp only at hSw); go_simp; (try with_reducible rfl); done)); (try simp only [put_rules]))
      (refine walkT_take (i := 2) (v := ?_) rfl (by kernel_rfl) (by decide) (by kernel_rfl) (by kernel_rfl) (fun _ _ _ h => h) (Or.inl ⟨by rfl, ?_⟩) (by assumption) ?_; rotate_left; (focus (intro w hSw; (try dsimp only at hSw); go_simp; (try with_reducible rfl); done)); (try simp only [put_rules]))
      (refine walkT_take (i := 3) (v := ?_) rfl (by kernel_rfl) (by decide) (by kernel_rfl) (by kernel_rfl) (fun _ _ _ h => h) (Or.inl ⟨by rfl, ?_⟩) (by assumption) ?_; rotate_left; (focus (intro w hSw; (try dsimp only at hSw); go_simp; (try with_reducible rfl); done)); (try simp only [put_rules]))
      (refine walkT_take (i := 4) (v := ?_) rfl (by kernel_rfl) (by decide) (by kernel_rfl) (by kernel_rfl) (fun _ _ _ h => h) (Or.inl ⟨by rfl, ?_⟩) (by assumption) ?_; rotate_left; (focus (intro w hSw; (try dsimp only at hSw); go_simp; (try with_reducible rfl); done)); (try simp only [put_rules]))
      (refine walkT_take (i := 5) (v := ?_) rfl (by kernel_rfl) (by decide) (by kernel_rfl) (by kernel_rfl) (fun _ _ _ h => h) (Or.inl ⟨by rfl, ?_⟩) (by assumption) ?_; rotate_left; (focus (intro w hSw; (try dsimp only at hSw); go_simp; (try with_reducible rfl); done)); (try simp only [put_rules]))
      (refine walkT_take (i := 6) (v := ?_) rfl (by kernel_rfl) (by decide) (by kernel_rfl) (by kernel_rfl) (fun _ _ _ h => h) (Or.inl ⟨by rfl, ?_⟩) (by assumption) ?_; rotate_left; (focus (intro w hSw; (try dsimp only at hSw); go_simp; (try with_reducible rfl); done)); (try simp only [put_rules]))
      (refine walkT_ready (rs := [7]) (by kernel_rfl) (by simp) (by decide) ?_; refine AllT.cons rfl (fun K hK => ?_) AllT.nil)
      go_simp
      go_at_call 57
      refine hcl.out.mono ?_
      rintro e w5 ⟨E, ec, rfl, T⟩
      have S5 := Sp.own_to_row (HSd.out.seq T) hok.out
      have S6 := Lib.hid (S5.pick (qs := [Row Ty.int (.slice E c.length ec) c, Rows Ty.int 35 (.slice B ys.length cc) cs ys, Box fo 28 #[.int .i64 vars, .slice B ys.length cc], Box (w.heap.size + 1) 28 #[.int .i64 0, .slice none 0 0], Box w.heap.size 28 #[.int .i64 vars, .slice (some ⟨ab, aoff, none⟩) xss.length cap]]) [0, 1, 0, 0, 0] rfl)
      clear S5 T HSd hcl
      go_wp2_with fail
      refine hK.out _ _ ⟨S6.out.cell (i := 2) rfl (o := 1) rfl, S6.out.cell (i := 4) rfl (o := 1) rfl, cell_below m0H.out S6.out.below⟩ (fun hS2 => ?_)
      clear hK hSc
      (try simp only [put_rules])
      (refine walkT_ready (rs := [8]) (by kernel_rfl) (by simp) (by decide) ?_; refine AllT.cons rfl (fun K hK => ?_) AllT.nil)
      go_simp
      have hrows := Lib.hid ((S6.out.rows (i := 1) rfl).alloc (.cells #[.slice E c.length ec] 35))
      have kB : (w5.alloc (.cells #[.slice E c.length ec] 35)).cell? ⟨w5.heap.size, 0, none⟩ = some (.slice E c.length ec) := cell_of_row _ _ _ _ _ _ (heap_alloc_new w5 _)
      have S7 := Lib.hid (S6.out.alloc (.cells #[.slice E c.length ec] 35))
      refine hK.out _ _ ⟨S7.out.cell (i := 2) rfl (o := 1) rfl, S7.out.cell (i := 4) rfl (o := 1) rfl, cell_below m0H.out S7.out.below⟩ (fun hS3 => ?_)
      clear hK hS2
      (try simp only [put_rules])
      (refine walkT_done (by kernel_rfl) ?_)
      simp only [List.drop_succ_cons, List.drop_zero]
      (refine wpList_append_src rfl _ _ rfl Tryz.underlying26 hi hz0 hz1 hz2 rfl (by decide) _ ys.length _ rfl hrows.out _ 1 1 [.slice E c.length ec] rfl (Src.one kB) (by simp [Value.oneCell']) (by unfold maxLen; omega) (by omega) ?_; intro vY wY hownY hgY hatY)
      have S8 := S7.out.rows_push (bb _) hownY hgY hatY
      obtain ⟨aY, cY, rfl⟩ := own_slice hownY
      have b1 := S8.cell (i := 1) rfl (o := 1) rfl
      have q1 := S8.frozen (i := 1) rfl 1
      have hlen : ys.length + 1 = (ys ++ [c]).length := by simp
      have S9 := S8.store (i := 1) rfl 1 (.slice aY (ys.length + 1) cY)
      rw [hlen] at S9
      have S10 : Hid (Sp w (wY.setCell ⟨fo, 1, none⟩ (.slice aY (ys.length + 1) cY)) [Box fo 28 #[.int .i64 vars, .slice aY (ys ++ [c]).length cY], Rows Ty.int 35 (.slice aY (ys ++ [c]).length cY) (cs ++ [.slice E c.length ec]) (ys ++ [c]), Box (w.heap.size + 1) 28 #[.int .i64 0, .slice none 0 0], Box w.heap.size 28 #[.int .i64 vars, .slice (some ⟨ab, aoff, none⟩) xss.length cap]]) := by
        rw [hlen]
        exact S9.pick [1, 0, 0, 0] rfl
      clear S6 S7 S8 S9 hrows hownY hgY hatY kB
      replace hlen := Lib.hid hlen
      go_wp2_with fail
      go_roundw
      case rel => exact ⟨k + 1, aY, cY, cs ++ [.slice E c.length ec], ys ++ [c], by omega, by go_num, hlen2.out, hnx, S10⟩
      case measure => simp [intOf]; omega
    · obtain rfl : k = xss.length := by omega
      have hy2 : ys = xss := by have := hys.out; rwa [List.take_length] at this
      subst hy2
      have e0 := HS.out.cell (i := 0) rfl (o := 0) rfl
      have e1 := HS.out.cell (i := 0) rfl (o := 1) rfl
      have r0 := HS.out.cell (i := 2) rfl (o := 0) rfl
      have r1 := HS.out.cell (i := 2) rfl (o := 1) rfl
      have f0 := HS.out.frozen (i := 2) rfl 0
      have f1 := HS.out.frozen (i := 2) rfl 1
      have SF := (HS.out.store (i := 2) rfl 0 (.int .i64 vars)).store (i := 2) rfl 1 (.slice B ys.length cc)
      have j0 := SF.cell (i := 2) rfl (o := 0) rfl
      have j1 := SF.cell (i := 2) rfl (o := 1) rfl
      have hR := Lib.hid (SF.pick (qs := [Rows Ty.int 35 (.slice B ys.length cc) cs ys]) [1] rfl)
      clear HS SF hys
      go_wp2_with fail
      exact bodyPost_ret (v := .agg #[.int .i64 vars, .slice B ys.length cc]) (by simp [results, Tryz.results52, go_sem, j0, j1]) rfl ⟨B, cc, cs, rfl, hR.out⟩
end Go.Proofs.YtahbepajeplcmaaGreat

/- Memory: an own row of rows told as its slices and what they reach. -/
namespace Go.Proofs.YtahbepajeplcmaaGreat
open Go.RowKit

/-- What the slices of a row reach. -/
def Inner (cs : List Value) (xss : List (List Int)) : Asn where
  p w F := F.Nodup ∧ (Ty.slice Ty.int).all true w cs xss F
  lt h := Ty.all_lt h.2
  keep h hk := ⟨h.1, Ty.all_keep h.2 hk⟩
theorem Sp.rows_split {w0 w : World} {e : TypeId} {v : Value} {cs : List Value} {xss : List (List Int)} {ps : List Asn} (h : Sp w0 w (Rows Ty.int e v cs xss :: ps)) : Sp w0 w (Own e 1 v xss.length cs :: Inner cs xss :: ps) := by
  obtain ⟨h1, F, ⟨F1, F2, rfl, hd, ⟨G, rfl, hn, hall, hown⟩, h5⟩, h3⟩ := h
  refine ⟨h1, v.ownBlock.toList ++ (G ++ F2), ⟨v.ownBlock.toList, G ++ F2, rfl, fun b hb hb2 => ?_, ⟨rfl, hown⟩, G, F2, rfl, fun b hb hb2 => hd b (List.mem_append.2 (.inr hb)) hb2, ⟨(List.nodup_append.1 hn).2.1, hall⟩, h5⟩, fun b hb => h3 b (by simpa using hb)⟩
  rcases List.mem_append.1 hb2 with hb2 | hb2
  · exact (List.nodup_append.1 hn).2.2 b hb b hb2 rfl
  · exact hd b (List.mem_append.2 (.inl hb)) hb2
theorem Sp.inner_at {w0 w : World} {ps : List Asn} {i : Nat} {cs : List Value} {xss : List (List Int)} (h : Sp w0 w ps) (hi : ps[i]? = some (Inner cs xss)) : ClsV w cs xss ∧ ∀ u ∈ cs, u.oneCell' = true := by
  obtain ⟨F, hp, _⟩ := h.get hi
  exact all_clsV hp.2
theorem Sp.rows_join {w0 w : World} {e : TypeId} {v : Value} {cs cs2 : List Value} {xss yss : List (List Int)} {ps : List Asn} (h : Sp w0 w (Own e 1 v (xss.length + yss.length) (cs ++ cs2) :: Inner cs xss :: Inner cs2 yss :: ps)) : Sp w0 w (Rows Ty.int e v (cs ++ cs2) (xss ++ yss) :: ps) := by
  obtain ⟨h1, F, ⟨F1, F2, rfl, hd, ⟨rfl, hown⟩, ⟨G1, F3, rfl, hd2, ⟨n1, hall1⟩, ⟨G2, F4, rfl, hd3, ⟨n2, hall2⟩, h5⟩⟩⟩, h3⟩ := h
  refine ⟨h1, (v.ownBlock.toList ++ (G1 ++ G2)) ++ F4, ⟨_, F4, rfl, fun b hb hb2 => ?_, ⟨G1 ++ G2, rfl, ?_, Ty.all_append hall1 hall2, by rw [List.length_append]; exact hown⟩, h5⟩, fun b hb => h3 b (by simpa using hb)⟩
  · rcases List.mem_append.1 hb with hb | hb
    · exact hd b hb (List.mem_append.2 (.inr (List.mem_append.2 (.inr hb2))))
    · rcases List.mem_append.1 hb with hb | hb
      · exact hd2 b hb (List.mem_append.2 (.inr hb2))
      · exact hd3 b hb hb2
  · refine List.nodup_append.2 ⟨by cases v.ownBlock <;> simp, List.nodup_append.2 ⟨n1, n2, fun x hx y hy e => hd2 x hx (by rw [e]; exact List.mem_append.2 (.inl hy))⟩, fun x hx y hy e => ?_⟩
    subst e
    refine hd x hx ?_
    rcases List.mem_append.1 hy with hy | hy
    · exact List.mem_append.2 (.inl hy)
    · exact List.mem_append.2 (.inr (List.mem_append.2 (.inl hy)))
end Go.Proofs.YtahbepajeplcmaaGreat

/- Contract: two Cnfs as one, in the reference. -/
namespace Go.Proofs.YtahbepajeplcmaaGreat
open Go.RowKit

set_option maxRecDepth 100000 in
set_option maxHeartbeats 8000000 in
theorem specBothYes_any (va vb : Int) (A1 A2 : Option Addr) (p1 p2 : Nat) (xss yss : List (List Int)) (F1 F2 : List Nat) (w : World) (hx : (Ty.slice Ty.int).row false w (.slice A1 xss.length p1) xss F1) (hy : (Ty.slice Ty.int).row false w (.slice A2 yss.length p2) yss F2) (h1 : goodB va xss = true) (h2 : goodB vb yss = true) :
    Calls Tryz.prog 19 #[.agg #[.int .i64 va, .slice A1 xss.length p1], .agg #[.int .i64 vb, .slice A2 yss.length p2]] w (CnfR w (giveV (max va vb) (xss ++ yss)) (giveL (max va vb) (xss ++ yss)) (goodB (max va vb) (xss ++ yss))) := by
  obtain ⟨_, _, e1, hI1⟩ := cls_row hx
  cases e1
  obtain ⟨_, _, e1, hI2⟩ := cls_row hy
  cases e1
  have g1 := good_cnf h1
  have g2 := good_cnf h2
  have S0 := (((Sp.start w).alloc_box #[.int .i64 va, .slice A1 xss.length p1] 28).alloc_box #[.int .i64 vb, .slice A2 yss.length p2] 28).alloc_box #[.int .i64 0, .slice none 0 0] 28
  simp only [World.size_alloc] at S0
  have hi1 := Lib.hid (fun W (h : Below w.heap.size w W) => l2Good_q (Ty.row_below hx h (Ty.row_lt hx)) h1)
  have hi2 := Lib.hid (fun W (h : Below w.heap.size w W) => l2Good_q (Ty.row_below hy h (Ty.row_lt hy)) h2)
  have ho1 := Lib.hid (fun W (h : Below w.heap.size w W) => l2Own_any va A1 p1 xss W (hI1.grow h) (by omega) (fun c hc => by have := (g1.2.2.2 c hc).2; omega))
  have ho2 := Lib.hid (fun W (h : Below w.heap.size w W) => l2Own_any vb A2 p2 yss W (hI2.grow h) (by omega) (fun c hc => by have := (g2.2.2.2 c hc).2; omega))
  have hmx := Lib.hid (fun W => l1Most_any va vb W)
  rw [show mostI va vb = max va vb by unfold mostI; by_cases h : vb < va <;> simp only [h, if_true, if_false] <;> omega] at hmx
  have hyl : Hid ((xss ++ yss).length = xss.length + yss.length) := by unfold Hid; simp
  have hl1 : xss.length ≤ 60 := g1.2.1
  have hl2 : yss.length ≤ 60 := g2.2.1
  have c0 := S0.cell (i := 2) rfl (o := 0) rfl
  have c1 := S0.cell (i := 2) rfl (o := 1) rfl
  replace S0 := Lib.hid S0
  clear hx hy h1 h2 hI1 hI2 g1 g2
  go_enter Tryz.func19, Tryz.ntmps19
  go_wp2_with fail
  refine (hi1.out _ S0.out.below).mono ?_
  rintro e w1 ⟨rfl, hb1⟩
  have S1 := S0.out.grow hb1
  have d0 := S1.cell (i := 1) rfl (o := 0) rfl
  have d1 := S1.cell (i := 1) rfl (o := 1) rfl
  replace S1 := Lib.hid S1
  clear S0 hb1 c0 c1 hi1
  go_wp2_with fail
  refine (hi2.out _ S1.out.below).mono ?_
  rintro e w2 ⟨rfl, hb2⟩
  have S2 := S1.out.grow hb2
  have c0 := S2.cell (i := 2) rfl (o := 0) rfl
  have c1 := S2.cell (i := 2) rfl (o := 1) rfl
  replace S2 := Lib.hid S2
  clear S1 hb2 hi2 d0 d1
  go_wp2_with fail
  refine (ho1.out _ S2.out.below).mono ?_
  rintro e w3 ⟨B, cc, cs, rfl, T3⟩
  have S3 := (S2.out.seq T3).alloc_box #[.int .i64 va, .slice B xss.length cc] 28
  have S3b := Lib.hid ((S2.out.seq T3).alloc_box #[.int .i64 (max va vb), .slice B xss.length cc] 28)
  have c0 := S3.cell (i := 4) rfl (o := 0) rfl
  have d0 := S3.cell (i := 3) rfl (o := 0) rfl
  have o0 := S3.cell (i := 0) rfl (o := 0) rfl
  have q0 := S3.frozen (i := 0) rfl 0
  replace S3 := Lib.hid S3
  clear S2 T3 ho1 c1
  go_wp2_with fail
  refine (hmx.out _).mono ?_
  rintro e w4 ⟨rfl, rfl⟩
  have S4 := (S3b.out.bring (i := 1) rfl).rows_split
  have o0 := S4.cell (i := 2) rfl (o := 0) rfl
  have o1 := S4.cell (i := 2) rfl (o := 1) rfl
  have e0 := S4.cell (i := 4) rfl (o := 0) rfl
  have e1 := S4.cell (i := 4) rfl (o := 1) rfl
  have S5 := Lib.hid S4.drew
  obtain ⟨i1, hi, hz0, hz1, hz2⟩ := info_parts infoRow
  clear S4 S3 S3b c0 d0 q0
  go_wp2_with fail
  refine wp_region_tail_lit (S := (fun w' => w'.cell? ⟨w3.heap.size, 1, none⟩ = some (.slice B xss.length cc) ∧ w'.cell? ⟨w.heap.size + 1, 0, none⟩ = some (.int .i64 vb) ∧ w'.cell? ⟨w.heap.size + 1, 1, none⟩ = some (.slice A2 yss.length p2))) 6 [false, false, false, false, false, false, false, false] (by kernel_rfl) (by kernel_rfl) (by kernel_rfl) ?_ ?_
  · exact ⟨o1, e0, e1⟩
  intro hSc
  (refine walkT_take (i := 0) (v := ?_) rfl (by kernel_rfl) (by decide) (by kernel_rfl) (by kernel_rfl) (fun _ _ _ h => h) (Or.inl ⟨by rfl, ?_⟩) (by assumption) ?_; rotate_left; (focus (intro w hSw; (try dsimp only at hSw); go_simp; (try with_reducible rfl); done)); (try simp only [put_rules]))
  (refine walkT_take (i := 1) (v := ?_) rfl (by kernel_rfl) (by decide) (by kernel_rfl) (by kernel_rfl) (fun _ _ _ h => h) (Or.inl ⟨by rfl, ?_⟩) (by assumption) ?_; rotate_left; (focus (intro w hSw; (try dsimp only at hSw); go_simp; (try with_reducible rfl); done)); (try simp only [put_rules]))
  (refine walkT_take (i := 2) (v := ?_) rfl (by kernel_rfl) (by decide) (by kernel_rfl) (by kernel_rfl) (fun _ _ _ h => h) (Or.inl ⟨by rfl, ?_⟩) (by assumption) ?_; rotate_left; (focus (intro w hSw; (try dsimp only at hSw); go_simp; (try with_reducible rfl); done)); (try simp only [put_rules]))
  (refine walkT_ready (rs := [3]) (by kernel_rfl) (by simp) (by decide) ?_; refine AllT.cons rfl (fun K hK => ?_) AllT.nil)
  go_simp
  go_at_call 52
  refine (ho2.out _ S5.out.below).mono ?_
  rintro e w5 ⟨B2, c2, cs2, rfl, T5⟩
  have S6 := Lib.hid (S5.out.seq T5)
  clear S5 T5 ho2
  go_wp2_with fail
  refine hK.out _ _ ⟨S6.out.cell (i := 3) rfl (o := 1) rfl, S6.out.cell (i := 5) rfl (o := 0) rfl, S6.out.cell (i := 5) rfl (o := 1) rfl⟩ (fun _ => ?_)
  clear hK hSc
  (try simp only [put_rules])
  (refine walkT_take (i := 4) (v := .slice B2 yss.length c2) rfl (by kernel_rfl) (by decide) (by kernel_rfl) (by kernel_rfl) (fun _ _ _ h => h) (Or.inl ⟨by rfl, fun _ _ => (by rfl)⟩) (by assumption) ?_; (try simp only [put_rules]))
  (refine walkT_ready (rs := [5]) (by kernel_rfl) (by simp) (by decide) ?_; refine AllT.cons rfl (fun K hK => ?_) AllT.nil)
  (refine step_append_src rfl _ _ rfl Tryz.underlying26 hi hz0 hz1 hz2 rfl (by decide) _ xss.length _ rfl (S6.out.own (i := 1) rfl) _ yss.length c2 cs2 rfl (rows_srcV S6.out (i := 0) rfl) (rows_clsV S6.out (i := 0) rfl).2 (by unfold maxLen; omega) (by omega) ?_; intro vE wE hownE hgE hatE)
  have S7 := (S6.out.own_push (i := 1) rfl (bb _) hownE hgE hatE)
  obtain ⟨aE, cE, rfl⟩ := own_slice hownE
  refine hK.out _ _ ⟨S7.cell (i := 3) rfl (o := 1) rfl, S7.cell (i := 5) rfl (o := 0) rfl, S7.cell (i := 5) rfl (o := 1) rfl⟩ (fun _ => ?_)
  clear hK
  (try simp only [put_rules])
  (refine walkT_done (by kernel_rfl) ?_)
  simp only [List.drop_succ_cons, List.drop_zero]
  have S8 := Sp.rows_join (Sp.pick [2, 2, 1, 1, 1] (Sp.rows_split S7) rfl)
  have q1 := S8.frozen (i := 1) rfl 1
  have o1 := S8.cell (i := 1) rfl (o := 1) rfl
  have S9 := S8.store (i := 1) rfl 1 (.slice aE (xss.length + yss.length) cE)
  have o0 := S9.cell (i := 1) rfl (o := 0) rfl
  have o2 := S9.cell (i := 1) rfl (o := 1) rfl
  obtain ⟨F, hr, -, -⟩ := S9.rows_done (i := 0) rfl
  have hgv := l4Give_any (max va vb) aE cE (xss ++ yss) F (wE.setCell ⟨w3.heap.size, 1, none⟩ (.slice aE (xss.length + yss.length) cE)) (by rw [hyl.out]; exact Ty.row_down hr)
  rw [hyl.out] at hgv
  replace hgv := Lib.hid hgv
  replace S9 := Lib.hid S9
  clear S6 S7 S8 hownE hgE hatE hr hmx hi hz0 hz1 hz2
  go_wp2_with fail
  refine hgv.out.mono ?_
  rintro e w6 ⟨vq, A', n', c'', rfl, hb6, h1, h2⟩
  have SA := S9.out.grow hb6
  replace h1 := Lib.hid h1
  replace h2 := Lib.hid h2
  have r0 := SA.cell (i := 2) rfl (o := 0) rfl
  have r1 := SA.cell (i := 2) rfl (o := 1) rfl
  have f0 := SA.frozen (i := 2) rfl 0
  have f1 := SA.frozen (i := 2) rfl 1
  have SF := (SA.store (i := 2) rfl 0 (.int .i64 vq)).store (i := 2) rfl 1 (.slice A' n' c'')
  have j0 := SF.cell (i := 2) rfl (o := 0) rfl
  have j1 := SF.cell (i := 2) rfl (o := 1) rfl
  rw [← hyl.out] at SF
  replace SF := Lib.hid SF
  clear SA S9 hgv hb6
  generalize hgo : goodB (max va vb) (xss ++ yss) = g at *
  go_wp2_with fail
  subst hgo
  exact bodyPost_ret (v := .tuple #[.agg #[.int .i64 vq, .slice A' n' c''], .bool (goodB (max va vb) (xss ++ yss))]) (by simp [results, Tryz.results19, go_sem, j0, j1]) rfl (CnfR.of SF.out h1.out h2.out)
end Go.Proofs.YtahbepajeplcmaaGreat

/- Contract: two Cnfs apart, in the program. -/
namespace Go.Proofs.YtahbepajeplcmaaGreat
open Go.RowKit

/-- The clauses of two Cnfs apart. -/
def apaL (va : Int) (xss yss : List (List Int)) : List (List Int) := xss ++ yss.map fun c => c.map (shV va)

set_option maxRecDepth 100000 in
set_option maxHeartbeats 8000000 in
theorem apartYes_any (va vb : Int) (A1 A2 : Option Addr) (p1 p2 : Nat) (xss yss : List (List Int)) (F1 F2 : List Nat) (w : World) (hx : (Ty.slice Ty.int).row false w (.slice A1 xss.length p1) xss F1) (hy : (Ty.slice Ty.int).row false w (.slice A2 yss.length p2) yss F2) (h1 : goodB va xss = true) (h2 : goodB vb yss = true) :
    Calls Tryz.prog 17 #[.agg #[.int .i64 va, .slice A1 xss.length p1], .agg #[.int .i64 vb, .slice A2 yss.length p2]] w (CnfR w (giveV (va + vb) (apaL va xss yss)) (giveL (va + vb) (apaL va xss yss)) (goodB (va + vb) (apaL va xss yss))) := by
  obtain ⟨_, _, e1, hI1⟩ := cls_row hx
  cases e1
  obtain ⟨_, _, e1, hI2⟩ := cls_row hy
  cases e1
  have g1 := good_cnf h1
  have g2 := good_cnf h2
  have hva : 0 ≤ va ∧ va ≤ 12 := g1.1
  have hvb : 0 ≤ vb ∧ vb ≤ 12 := g2.1
  have hw1 : IntKind.i64.wrap (va + vb) = va + vb := IntWalk.i64_in _ (by omega)
  obtain ⟨i0, hi, hz0, hz1, hz2⟩ := info_parts infoRow
  have S0 := (((Sp.start w).alloc_box #[.int .i64 va, .slice A1 xss.length p1] 28).alloc_box #[.int .i64 vb, .slice A2 yss.length p2] 28).alloc_box #[.int .i64 0, .slice none 0 0] 28
  simp only [World.size_alloc] at S0
  have hi1 := Lib.hid (fun W (h : Below w.heap.size w W) => isCnf_q (Ty.row_below hx h (Ty.row_lt hx)) h1)
  have hi2 := Lib.hid (fun W (h : Below w.heap.size w W) => isCnf_q (Ty.row_below hy h (Ty.row_lt hy)) h2)
  have hl1 : xss.length ≤ 60 := g1.2.1
  have hl2 : yss.length ≤ 60 := g2.2.1
  have hcl := Lib.hid (fun W (h : ClsAt W A1 xss) => cloneLists_any xss A1 p1 W h (by omega) (fun c h => by have := (g1.2.2.2 c h).2; omega))
  have hY := Lib.hid hI2
  have hX := Lib.hid hI1
  have hsm := Lib.hid (fun c (h : c ∈ yss) => And.intro (show c.length ≤ 1000 from (g2.2.2.2 c h).2) (fun x hx => And.intro ((g2.2.2.2 c h).1 x hx).2.1 ((g2.2.2.2 c h).1 x hx).2.2))
  have c0 := S0.cell (i := 2) rfl (o := 0) rfl
  have c1 := S0.cell (i := 2) rfl (o := 1) rfl
  replace S0 := Lib.hid S0
  clear hx hy h1 h2 hI1 hI2 g1 g2
  go_enter Tryz.func17, Tryz.ntmps17
  go_wp2_with fail
  refine (hi1.out _ S0.out.below).mono ?_
  rintro e w1 ⟨rfl, hb1⟩
  have S1 := S0.out.grow hb1
  have d0 := S1.cell (i := 1) rfl (o := 0) rfl
  have d1 := S1.cell (i := 1) rfl (o := 1) rfl
  replace S1 := Lib.hid S1
  clear S0 hb1 c0 c1 hi1
  go_wp2_with fail
  refine (hi2.out _ S1.out.below).mono ?_
  rintro e w2 ⟨rfl, hb2⟩
  have S2 := S1.out.grow hb2
  have c0 := S2.cell (i := 2) rfl (o := 0) rfl
  have c1 := S2.cell (i := 2) rfl (o := 1) rfl
  have d0 := S2.cell (i := 1) rfl (o := 0) rfl
  have d1 := S2.cell (i := 1) rfl (o := 1) rfl
  have hcl2 := Lib.hid (hcl.out w2.drew (hX.out.grow S2.drew.below))
  replace S2 := Lib.hid S2.drew
  clear S1 hb2 hi2 hcl hX
  go_wp2_with fail
  refine wp_region_tail_lit (S := (fun w' => w'.cell? ⟨w.heap.size, 0, none⟩ = some (.int .i64 va) ∧ w'.cell? ⟨w.heap.size, 1, none⟩ = some (.slice A1 xss.length p1) ∧ w'.cell? ⟨w.heap.size + 1, 0, none⟩ = some (.int .i64 vb))) 10 [false, false, false, false, false, false, false, false, false, false, false] (by kernel_rfl) (by kernel_rfl) (by kernel_rfl) ?_ ?_
  · exact ⟨c0, c1, d0⟩
  intro hSc
  (refine walkT_take (i := 0) (v := ?_) rfl (by kernel_rfl) (by decide) (by kernel_rfl) (by kernel_rfl) (fun _ _ _ h => h) (Or.inl ⟨by rfl, ?_⟩) (by assumption) ?_; rotate_left; (focus (intro w hSw; (try dsimp only at hSw); go_simp; (try with_reducible rfl); done)); (try simp only [put_rules]))
  (refine walkT_take (i := 1) (v := ?_) rfl (by kernel_rfl) (by decide) (by kernel_rfl) (by kernel_rfl) (fun _ _ _ h => h) (Or.inl ⟨by rfl, ?_⟩) (by assumption) ?_; rotate_left; (focus (intro w hSw; (try dsimp only at hSw); go_simp; (try with_reducible rfl); done)); (try simp only [put_rules]))
  (refine walkT_take (i := 2) (v := ?_) rfl (by kernel_rfl) (by decide) (by kernel_rfl) (by kernel_rfl) (fun _ _ _ h => h) (Or.inl ⟨by rfl, ?_⟩) (by assumption) ?_; rotate_left; (focus (intro w hSw; (try dsimp only at hSw); go_simp; (try with_reducible rfl); done)); (try simp only [put_rules]))
  (refine walkT_take (i := 3) (v := ?_) rfl (by kernel_rfl) (by decide) (by kernel_rfl) (by kernel_rfl) (fun _ _ _ h => h) (Or.inl ⟨by rfl, ?_⟩) (by assumption) ?_; rotate_left; (focus (intro w hSw; (try dsimp only at hSw); go_simp; (try with_reducible rfl); done)); (try simp only [put_rules]))
  (refine walkT_take (i := 4) (v := ?_) rfl (by kernel_rfl) (by decide) (by kernel_rfl) (by kernel_rfl) (fun _ _ _ h => h) (Or.inl ⟨by rfl, ?_⟩) (by assumption) ?_; rotate_left; (focus (intro w hSw; (try dsimp only at hSw); go_simp; (try with_reducible rfl); done)); (try simp only [put_rules]))
  (refine walkT_take (i := 5) (v := ?_) rfl (by kernel_rfl) (by decide) (by kernel_rfl) (by kernel_rfl) (fun _ _ _ h => h) (Or.inl ⟨by rfl, ?_⟩) (by assumption) ?_; rotate_left; (focus (intro w hSw; (try dsimp only at hSw); go_simp; (try with_reducible rfl); done)); (try simp only [put_rules]))
  (refine walkT_take (i := 6) (v := ?_) rfl (by kernel_rfl) (by decide) (by kernel_rfl) (by kernel_rfl) (fun _ _ _ h => h) (Or.inl ⟨by rfl, ?_⟩) (by assumption) ?_; rotate_left; (focus (intro w hSw; (try dsimp only at hSw); go_simp; (try with_reducible rfl); done)); (try simp only [put_rules]))
  (refine walkT_ready (rs := [7]) (by kernel_rfl) (by simp) (by decide) ?_; refine AllT.cons rfl (fun K hK => ?_) AllT.nil)
  go_simp
  go_at_call 33
  refine hcl2.out.mono ?_
  rintro e w3 ⟨B, c, cs, rfl, T⟩
  have S3 := Lib.hid (S2.out.seq T)
  clear S2 T hcl2 c0 c1 d0 d1
  go_wp2_with fail
  refine hK.out _ _ ⟨S3.out.cell (i := 3) rfl (o := 0) rfl, S3.out.cell (i := 3) rfl (o := 1) rfl, S3.out.cell (i := 2) rfl (o := 0) rfl⟩ (fun hS2 => ?_)
  clear hK hSc
  (try simp only [put_rules])
  (refine walkT_take (i := 8) (v := ?_) rfl (by kernel_rfl) (by decide) (by kernel_rfl) (by kernel_rfl) (fun _ _ _ h => h) (Or.inl ⟨by rfl, ?_⟩) (by assumption) ?_; rotate_left; (focus (intro w hSw; (try dsimp only at hSw); go_simp; (try with_reducible rfl); done)); (try simp only [put_rules]))
  (refine walkT_ready (rs := [9]) (by kernel_rfl) (by simp) (by decide) ?_; refine AllT.cons rfl (fun K hK => ?_) AllT.nil)
  go_simp
  have S3b := Lib.hid (S3.out.alloc_box #[.int .i64 (va + vb), .slice B xss.length c] 49)
  refine hK.out _ _ ⟨S3b.out.cell (i := 4) rfl (o := 0) rfl, S3b.out.cell (i := 4) rfl (o := 1) rfl, S3b.out.cell (i := 3) rfl (o := 0) rfl⟩ (fun hS3 => ?_)
  clear hK hS2
  (try simp only [put_rules])
  (refine walkT_done (by kernel_rfl) ?_)
  simp only [List.drop_succ_cons, List.drop_zero]
  obtain ⟨fb, hfb⟩ : ∃ fb, w3.heap.size = fb := ⟨_, rfl⟩
  obtain ⟨rb, hrb⟩ : ∃ rb, w.heap.size + 1 + 1 = rb := ⟨_, rfl⟩
  obtain ⟨vx, hvx⟩ : ∃ vx, w.heap.size + 1 = vx := ⟨_, rfl⟩
  rw [hfb, hrb, hvx]
  have S4 : Hid (Sp w (w3.alloc (.cells #[.int .i64 (va + vb), .slice B xss.length c] 49)) (FamP fb (va + vb) B c cs xss [Box rb 28 #[.int .i64 0, .slice none 0 0], Box vx 28 #[.int .i64 vb, .slice A2 yss.length p2], Box w.heap.size 28 #[.int .i64 va, .slice A1 xss.length p1]])) := by
    have h := S3b.out
    rw [hfb, hrb, hvx] at h
    exact h.swap
  clear S3 S3b hS3
  have e1 := S4.out.cell (i := 3) rfl (o := 1) rfl
  go_wp2_with fail
  go_loopw [31] (fun v31 wr => ∃ (i : Nat) (B' : Option Addr) (c' : Nat) (cs' : List Value) (zss : List (List Int)), i ≤ yss.length ∧ v31 = .int .i64 i ∧ Hid (zss = xss ++ (yss.take i).map (fun c => c.map (shV va))) ∧ Hid (Sp w wr (FamP fb (va + vb) B' c' cs' zss [Box rb 28 #[.int .i64 0, .slice none 0 0], Box vx 28 #[.int .i64 vb, .slice A2 yss.length p2], Box w.heap.size 28 #[.int .i64 va, .slice A1 xss.length p1]]))) (fun v31 _ => yss.length - (intOf v31).toNat)
  case atStart => exact ⟨0, B, c, cs, xss, Nat.zero_le _, rfl, by simp [Hid], S4⟩
  case round =>
    clear S4
    obtain ⟨i, B', c', cs', zss, hi2, rfl, hzs, HS⟩ := hrel
    by_cases hlt : i < yss.length
    · have d1 : decide ((i : Int) < (yss.length : Int)) = true := decide_eq_true (by omega)
      have hzl : zss.length ≤ 1000 := by rw [hzs.out, List.length_append, List.length_map, List.length_take]; omega
      obtain ⟨ab, aoff, D, dc, rfl, m0, hI⟩ := (hY.out.grow HS.out.below).at_ i hlt
      have hs := hsm.out _ (List.getElem_mem hlt)
      have hsh := Lib.hid (shifted_any va hva yss[i] D dc wr.drew (hI.grow (bdr (bb wr))) hs.1 hs.2)
      have hsI : Hid (∀ x ∈ yss[i].map (shV va), I64 x) := fun x hx => by
        obtain ⟨y, hy, rfl⟩ := List.mem_map.1 hx
        have := hs.2 y hy
        unfold shV I64
        split <;> omega
      have hnx : Hid (zss ++ [yss[i].map (shV va)] = xss ++ (yss.take (i + 1)).map (fun c => c.map (shV va))) := by
        unfold Hid; rw [hzs.out, List.take_succ_eq_append_getElem hlt, List.map_append, List.append_assoc]; rfl
      have hll : Hid (yss[i].length = (yss[i].map (shV va)).length) := by unfold Hid; rw [List.length_map]
      generalize yss[i].map (shV va) = R at *
      generalize yss[i].length = m at *
      have c1 := HS.out.cell (i := 1) rfl (o := 1) rfl
      have a0 := HS.out.cell (i := 4) rfl (o := 0) rfl
      have S1 := Lib.hid HS.out.drew
      clear hs hI hzs HS
      go_wp2_with fail
      refine wp_region_tail_lit (S := (fun w' => w'.cell? ⟨fb, 1, none⟩ = some (.slice B' zss.length c') ∧ w'.cell? ⟨w.heap.size, 0, none⟩ = some (.int .i64 va))) 11 [false, false, false, false, false, false, false, false, false, false, false, false, false, false] (by kernel_rfl) (by kernel_rfl) (by kernel_rfl) ?_ ?_
      · exact ⟨c1, a0⟩
      intro hSc
      (refine walkT_take (i := 0) (v := ?_) rfl (by kernel_rfl) (by decide) (by kernel_rfl) (by kernel_rfl) (fun _ _ _ h => h) (Or.inl ⟨by rfl, ?_⟩) (by assumption) ?_; rotate_left; (focus (intro w hSw; (try dsimp only at hSw); go_simp; (try with_reducible rfl); done)); (try simp only [put_rules]))
      (refine walkT_take (i := 1) (v := ?_) rfl (by kernel_rfl) (by decide) (by kernel_rfl) (by kernel_rfl) (fun _ _ _ h => h) (Or.inl ⟨by rfl, ?_⟩) (by assumption) ?_; rotate_left; (focus (intro w hSw; (try dsimp only at hSw); go_simp; (try with_reducible rfl); done)); (try simp only [put_rules]))
      (refine walkT_take (i := 2) (v := ?_) rfl (by kernel_rfl) (by decide) (by kernel_rfl) (by kernel_rfl) (fun _ _ _ h => h) (Or.inl ⟨by rfl, ?_⟩) (by assumption) ?_; rotate_left; (focus (intro w hSw; (try dsimp only at hSw); go_simp; (try with_reducible rfl); done)); (try simp only [put_rules]))
      (refine walkT_take (i := 3) (v := ?_) rfl (by kernel_rfl) (by decide) (by kernel_rfl) (by kernel_rfl) (fun _ _ _ h => h) (Or.inl ⟨by rfl, ?_⟩) (by assumption) ?_; rotate_left; (focus (intro w hSw; (try dsimp only at hSw); go_simp; (try with_reducible rfl); done)); (try simp only [put_rules]))
      (refine walkT_take (i := 4) (v := ?_) rfl (by kernel_rfl) (by decide) (by kernel_rfl) (by kernel_rfl) (fun _ _ _ h => h) (Or.inl ⟨by rfl, ?_⟩) (by assumption) ?_; rotate_left; (focus (intro w hSw; (try dsimp only at hSw); go_simp; (try with_reducible rfl); done)); (try simp only [put_rules]))
      (refine walkT_take (i := 5) (v := ?_) rfl (by kernel_rfl) (by decide) (by kernel_rfl) (by kernel_rfl) (fun _ _ _ h => h) (Or.inl ⟨by rfl, ?_⟩) (by assumption) ?_; rotate_left; (focus (intro w hSw; (try dsimp only at hSw); go_simp; (try with_reducible rfl); done)); (try simp only [put_rules]))
      (refine walkT_take (i := 6) (v := ?_) rfl (by kernel_rfl) (by decide) (by kernel_rfl) (by kernel_rfl) (fun _ _ _ h => h) (Or.inl ⟨by rfl, ?_⟩) (by assumption) ?_; rotate_left; (focus (intro w hSw; (try dsimp only at hSw); go_simp; (try with_reducible rfl); done)); (try simp only [put_rules]))
      (refine walkT_take (i := 7) (v := ?_) rfl (by kernel_rfl) (by decide) (by kernel_rfl) (by kernel_rfl) (fun _ _ _ h => h) (Or.inl ⟨by rfl, ?_⟩) (by assumption) ?_; rotate_left; (focus (intro w hSw; (try dsimp only at hSw); go_simp; (try with_reducible rfl); done)); (try simp only [put_rules]))
      (refine walkT_ready (rs := [8]) (by kernel_rfl) (by simp) (by decide) ?_; refine AllT.cons rfl (fun K hK => ?_) AllT.nil)
      go_simp
      go_at_call 50
      refine hsh.out.mono ?_
      rintro e w2 ⟨E, ec, rfl, T⟩
      rw [hll.out] at T
      have S2 := Lib.hid (Sp.own_to_row (S1.out.seq T) hsI.out)
      clear hsh S1 T c1 a0 m0
      go_wp2_with fail
      refine hK.out _ _ ⟨S2.out.cell (i := 2) rfl (o := 1) rfl, S2.out.cell (i := 5) rfl (o := 0) rfl⟩ (fun hS2 => ?_)
      clear hK hSc
      (try simp only [put_rules])
      rw [hll.out]
      (refine walkT_ready (rs := [9]) (by kernel_rfl) (by simp) (by decide) ?_; refine AllT.cons rfl (fun K hK => ?_) AllT.nil)
      go_simp
      have S3 := Lib.hid (S2.out.alloc_box #[.slice E R.length ec] 35)
      refine hK.out _ _ ⟨S3.out.cell (i := 3) rfl (o := 1) rfl, S3.out.cell (i := 6) rfl (o := 0) rfl⟩ (fun hS3 => ?_)
      clear hK hS2
      (try simp only [put_rules])
      (refine walkT_ready (rs := [10]) (by kernel_rfl) (by simp) (by decide) ?_; refine AllT.cons rfl (fun K hK => ?_) AllT.nil)
      (refine step_append_src rfl _ _ rfl Tryz.underlying26 hi hz0 hz1 hz2 rfl (by decide) _ zss.length _ rfl (S3.out.rows (i := 2) rfl) _ 1 1 [.slice E R.length ec] rfl (Src.one (S3.out.cell (i := 0) rfl (o := 0) rfl)) (by simp [Value.oneCell']) (by unfold maxLen; omega) (by omega) ?_; intro vE wE hownE hgE hatE)
      have S4 := S2.out.rows_push (bal (bb _) _) hownE hgE hatE
      obtain ⟨aE, cE, rfl⟩ := own_slice hownE
      refine hK.out _ _ ⟨S4.cell (i := 1) rfl (o := 1) rfl, S4.cell (i := 4) rfl (o := 0) rfl⟩ (fun _ => ?_)
      clear hK S2 S3 hownE hgE hatE
      have hfz := S4.frozen (i := 1) rfl 1
      have hc4 := S4.cell (i := 1) rfl (o := 1) rfl
      have hlen : zss.length + 1 = (zss ++ [R]).length := by simp
      have S5 : Hid (Sp w (wE.setCell ⟨fb, 1, none⟩ (.slice aE (zss.length + 1) cE)) (FamP fb (va + vb) aE cE (cs' ++ [.slice E R.length ec]) (zss ++ [R]) [Box rb 28 #[.int .i64 0, .slice none 0 0], Box vx 28 #[.int .i64 vb, .slice (some ⟨ab, aoff, none⟩) yss.length p2], Box w.heap.size 28 #[.int .i64 va, .slice A1 xss.length p1]])) := by
        have := S4.store (i := 1) rfl 1 (.slice aE (zss.length + 1) cE)
        rw [hlen] at this ⊢
        exact this
      clear S4
      replace hlen := Lib.hid hlen
      (try simp only [put_rules])
      (refine walkT_done (by kernel_rfl) ?_)
      simp only [List.drop_succ_cons, List.drop_zero]
      go_wp2_with fail
      go_roundw
      case rel => exact ⟨i + 1, aE, cE, _, zss ++ [R], by omega, by go_num, hnx, S5⟩
      case measure => simp [intOf]; omega
    · obtain rfl : i = yss.length := by omega
      rw [List.take_length] at hzs
      have ez : zss = apaL va xss yss := hzs.out
      subst ez
      have p0 := HS.out.cell (i := 1) rfl (o := 0) rfl
      have p1 := HS.out.cell (i := 1) rfl (o := 1) rfl
      obtain ⟨F, hr, -, -⟩ := HS.out.rows_done (i := 0) rfl
      have hcn := Lib.hid (famCnf_any fb (va + vb) B' c' (apaL va xss yss) F wr p0 p1 (Ty.row_down hr))
      have HS2 := Lib.hid HS.out
      clear HS hr p0 p1 hzs hY hsm
      generalize apaL va xss yss = Z at *
      go_wp2_with fail
      refine hcn.out.mono ?_
      rintro e w2 ⟨vq, A', n', c'', rfl, hb4, h1, h2⟩
      have S5 := HS2.out.grow hb4
      replace h1 := Lib.hid h1
      replace h2 := Lib.hid h2
      have r0 := S5.cell (i := 2) rfl (o := 0) rfl
      have r1 := S5.cell (i := 2) rfl (o := 1) rfl
      have f0 := S5.frozen (i := 2) rfl 0
      have f1 := S5.frozen (i := 2) rfl 1
      have SF := (S5.store (i := 2) rfl 0 (.int .i64 vq)).store (i := 2) rfl 1 (.slice A' n' c'')
      have j0 := SF.cell (i := 2) rfl (o := 0) rfl
      have j1 := SF.cell (i := 2) rfl (o := 1) rfl
      have SF2 := Lib.hid (Sp.pick [0] SF rfl)
      clear HS2 S5 SF hcn hb4
      generalize hgo : goodB (va + vb) Z = g at *
      go_wp2_with fail
      subst hgo
      exact bodyPost_ret (v := .tuple #[.agg #[.int .i64 vq, .slice A' n' c''], .bool (goodB (va + vb) Z)]) (by simp [results, Tryz.results17, go_sem, j0, j1]) rfl (CnfR.of SF2.out h1.out h2.out)
end Go.Proofs.YtahbepajeplcmaaGreat

/- Contract: two Cnfs apart, in the reference. Printed by gen_cud.py. -/
namespace Go.Proofs.YtahbepajeplcmaaGreat
open Go.RowKit

set_option maxRecDepth 100000 in
set_option maxHeartbeats 8000000 in
theorem specApartNo_any (va vb : Int) (A1 A2 : Option Addr) (p1 p2 : Nat) (xss yss : List (List Int)) (F1 F2 : List Nat) (w : World) (hx : (Ty.slice Ty.int).row false w (.slice A1 xss.length p1) xss F1) (hy : (Ty.slice Ty.int).row false w (.slice A2 yss.length p2) yss F2) (hno : (goodB va xss && goodB vb yss) = false) :
    Calls Tryz.prog 18 #[.agg #[.int .i64 va, .slice A1 xss.length p1], .agg #[.int .i64 vb, .slice A2 yss.length p2]] w (CnfR w 0 [] false) := by
  have S0 := (((Sp.start w).alloc_box #[.int .i64 va, .slice A1 xss.length p1] 28).alloc_box #[.int .i64 vb, .slice A2 yss.length p2] 28).alloc_box #[.int .i64 0, .slice none 0 0] 28
  simp only [World.size_alloc] at S0
  have hi1 := Lib.hid (fun W (h : Below w.heap.size w W) => l2Good_q (Ty.row_below hx h (Ty.row_lt hx)) (rfl : goodB va xss = _))
  have hi2 := Lib.hid (fun W (h : Below w.heap.size w W) => l2Good_q (Ty.row_below hy h (Ty.row_lt hy)) (rfl : goodB vb yss = _))
  have c0 := S0.cell (i := 2) rfl (o := 0) rfl
  have c1 := S0.cell (i := 2) rfl (o := 1) rfl
  replace S0 := Lib.hid S0
  clear hx hy
  cases h1 : goodB va xss with
  | false =>
    rw [h1] at hi1
    clear hi2 hno h1
    go_enter Tryz.func18, Tryz.ntmps18
    go_wp2_with fail
    refine (hi1.out _ S0.out.below).mono ?_
    rintro e w1 ⟨rfl, hb1⟩
    clear c0 c1 hi1
    have S1 := S0.out.grow hb1
    have r0 := S1.cell (i := 0) rfl (o := 0) rfl
    have r1 := S1.cell (i := 0) rfl (o := 1) rfl
    have f0 := S1.frozen (i := 0) rfl 0
    have f1 := S1.frozen (i := 0) rfl 1
    have SF := (S1.store (i := 0) rfl 0 (.int .i64 0)).store (i := 0) rfl 1 (.slice none 0 0)
    have j0 := SF.cell (i := 0) rfl (o := 0) rfl
    have j1 := SF.cell (i := 0) rfl (o := 1) rfl
    have hB := Lib.hid SF.below
    clear S1 SF hb1
    go_wp2_with fail
    exact bodyPost_ret (v := .tuple #[.agg #[.int .i64 0, .slice none 0 0], .bool false]) (by simp [results, Tryz.results18, go_sem, j0, j1]) rfl ⟨none, 0, [], rfl, Ty.row_nil _ _ _ _ _ (by decide), hB.out⟩
  | true =>
    rw [h1, Bool.true_and] at hno
    rw [h1] at hi1
    rw [hno] at hi2
    clear hno h1
    go_enter Tryz.func18, Tryz.ntmps18
    go_wp2_with fail
    refine (hi1.out _ S0.out.below).mono ?_
    rintro e w1 ⟨rfl, hb1⟩
    have S1 := S0.out.grow hb1
    have d0 := S1.cell (i := 1) rfl (o := 0) rfl
    have d1 := S1.cell (i := 1) rfl (o := 1) rfl
    replace S1 := Lib.hid S1
    clear S0 hb1 c0 c1 hi1
    go_wp2_with fail
    refine (hi2.out _ S1.out.below).mono ?_
    rintro e w2 ⟨rfl, hb2⟩
    clear d0 d1 hi2
    have S2 := S1.out.grow hb2
    have r0 := S2.cell (i := 0) rfl (o := 0) rfl
    have r1 := S2.cell (i := 0) rfl (o := 1) rfl
    have f0 := S2.frozen (i := 0) rfl 0
    have f1 := S2.frozen (i := 0) rfl 1
    have SF := (S2.store (i := 0) rfl 0 (.int .i64 0)).store (i := 0) rfl 1 (.slice none 0 0)
    have j0 := SF.cell (i := 0) rfl (o := 0) rfl
    have j1 := SF.cell (i := 0) rfl (o := 1) rfl
    have hB := Lib.hid SF.below
    clear S2 SF hb2
    go_wp2_with fail
    exact bodyPost_ret (v := .tuple #[.agg #[.int .i64 0, .slice none 0 0], .bool false]) (by simp [results, Tryz.results18, go_sem, j0, j1]) rfl ⟨none, 0, [], rfl, Ty.row_nil _ _ _ _ _ (by decide), hB.out⟩

set_option maxRecDepth 100000 in
set_option maxHeartbeats 8000000 in
theorem specApartFar_any (va vb : Int) (A1 A2 : Option Addr) (p1 p2 : Nat) (xss yss : List (List Int)) (F1 F2 : List Nat) (w : World) (hx : (Ty.slice Ty.int).row false w (.slice A1 xss.length p1) xss F1) (hy : (Ty.slice Ty.int).row false w (.slice A2 yss.length p2) yss F2) (h1 : goodB va xss = true) (h2 : goodB vb yss = true) (hs : 12 < va + vb) :
    Calls Tryz.prog 18 #[.agg #[.int .i64 va, .slice A1 xss.length p1], .agg #[.int .i64 vb, .slice A2 yss.length p2]] w (CnfR w 0 [] false) := by
  have g1 := good_cnf h1
  have g2 := good_cnf h2
  have hva : 0 ≤ va ∧ va ≤ 12 := g1.1
  have hvb : 0 ≤ vb ∧ vb ≤ 12 := g2.1
  have hw1 : IntKind.i64.wrap (va + vb) = va + vb := IntWalk.i64_in _ (by omega)
  have S0 := (((Sp.start w).alloc_box #[.int .i64 va, .slice A1 xss.length p1] 28).alloc_box #[.int .i64 vb, .slice A2 yss.length p2] 28).alloc_box #[.int .i64 0, .slice none 0 0] 28
  simp only [World.size_alloc] at S0
  have hi1 := Lib.hid (fun W (h : Below w.heap.size w W) => l2Good_q (Ty.row_below hx h (Ty.row_lt hx)) h1)
  have hi2 := Lib.hid (fun W (h : Below w.heap.size w W) => l2Good_q (Ty.row_below hy h (Ty.row_lt hy)) h2)
  have c0 := S0.cell (i := 2) rfl (o := 0) rfl
  have c1 := S0.cell (i := 2) rfl (o := 1) rfl
  replace S0 := Lib.hid S0
  have hg : decide (12 < va + vb) = true := decide_eq_true hs
  clear hx hy h1 h2 g1 g2
  go_enter Tryz.func18, Tryz.ntmps18
  go_wp2_with fail
  refine (hi1.out _ S0.out.below).mono ?_
  rintro e w1 ⟨rfl, hb1⟩
  have S1 := S0.out.grow hb1
  have d0 := S1.cell (i := 1) rfl (o := 0) rfl
  have d1 := S1.cell (i := 1) rfl (o := 1) rfl
  replace S1 := Lib.hid S1
  clear S0 hb1 c0 c1 hi1
  go_wp2_with fail
  refine (hi2.out _ S1.out.below).mono ?_
  rintro e w2 ⟨rfl, hb2⟩
  have S2 := S1.out.grow hb2
  have c0 := S2.cell (i := 2) rfl (o := 0) rfl
  have c1 := S2.cell (i := 2) rfl (o := 1) rfl
  have d0 := S2.cell (i := 1) rfl (o := 0) rfl
  have d1 := S2.cell (i := 1) rfl (o := 1) rfl
  replace S2 := S2
  have r0 := S2.cell (i := 0) rfl (o := 0) rfl
  have r1 := S2.cell (i := 0) rfl (o := 1) rfl
  have f0 := S2.frozen (i := 0) rfl 0
  have f1 := S2.frozen (i := 0) rfl 1
  have SF := (S2.store (i := 0) rfl 0 (.int .i64 0)).store (i := 0) rfl 1 (.slice none 0 0)
  have j0 := SF.cell (i := 0) rfl (o := 0) rfl
  have j1 := SF.cell (i := 0) rfl (o := 1) rfl
  have hB := Lib.hid SF.below
  clear S1 S2 SF hb2 hi2
  go_wp2_with fail
  exact bodyPost_ret (v := .tuple #[.agg #[.int .i64 0, .slice none 0 0], .bool false]) (by simp [results, Tryz.results18, go_sem, j0, j1]) rfl ⟨none, 0, [], rfl, Ty.row_nil _ _ _ _ _ (by decide), hB.out⟩

set_option maxRecDepth 100000 in
set_option maxHeartbeats 16000000 in
theorem specApartYes_any (va vb : Int) (A1 A2 : Option Addr) (p1 p2 : Nat) (xss yss : List (List Int)) (F1 F2 : List Nat) (w : World) (hx : (Ty.slice Ty.int).row false w (.slice A1 xss.length p1) xss F1) (hy : (Ty.slice Ty.int).row false w (.slice A2 yss.length p2) yss F2) (h1 : goodB va xss = true) (h2 : goodB vb yss = true) (hs : va + vb ≤ 12) :
    Calls Tryz.prog 18 #[.agg #[.int .i64 va, .slice A1 xss.length p1], .agg #[.int .i64 vb, .slice A2 yss.length p2]] w (CnfR w (giveV (va + vb) (apaL va xss yss)) (giveL (va + vb) (apaL va xss yss)) (goodB (va + vb) (apaL va xss yss))) := by
  obtain ⟨_, _, e1, hI1⟩ := cls_row hx
  cases e1
  obtain ⟨_, _, e1, hI2⟩ := cls_row hy
  cases e1
  obtain ⟨i0, hi, hz0, hz1, hz2⟩ := info_parts infoRow
  obtain ⟨i2, hj0, hy0, hy1, hy2⟩ := info_parts infoInt
  have g1 := good_cnf h1
  have g2 := good_cnf h2
  have hva : 0 ≤ va ∧ va ≤ 12 := g1.1
  have hvb : 0 ≤ vb ∧ vb ≤ 12 := g2.1
  have hw1 : IntKind.i64.wrap (va + vb) = va + vb := IntWalk.i64_in _ (by omega)
  have S0 := (((Sp.start w).alloc_box #[.int .i64 va, .slice A1 xss.length p1] 28).alloc_box #[.int .i64 vb, .slice A2 yss.length p2] 28).alloc_box #[.int .i64 0, .slice none 0 0] 28
  simp only [World.size_alloc] at S0
  have hi1 := Lib.hid (fun W (h : Below w.heap.size w W) => l2Good_q (Ty.row_below hx h (Ty.row_lt hx)) h1)
  have hi2 := Lib.hid (fun W (h : Below w.heap.size w W) => l2Good_q (Ty.row_below hy h (Ty.row_lt hy)) h2)
  have c0 := S0.cell (i := 2) rfl (o := 0) rfl
  have c1 := S0.cell (i := 2) rfl (o := 1) rfl
  replace S0 := Lib.hid S0
  have hg : decide (12 < va + vb) = false := decide_eq_false (by omega)
  have hl1 : xss.length ≤ 60 := g1.2.1
  have hl2 : yss.length ≤ 60 := g2.2.1
  have ho1 := Lib.hid (fun W (h : Below w.heap.size w W) => l2Own_any va A1 p1 xss W (hI1.grow h) (by omega) (fun c hc => by have := (g1.2.2.2 c hc).2; omega))
  have hY := Lib.hid hI2
  have hsm := Lib.hid (fun c (h : c ∈ yss) => And.intro (show c.length ≤ 1000 from (g2.2.2.2 c h).2) (fun x hx => And.intro ((g2.2.2.2 c h).1 x hx).2.1 ((g2.2.2.2 c h).1 x hx).2.2))
  clear hx hy h1 h2 g1 g2 hI1 hI2
  go_enter Tryz.func18, Tryz.ntmps18
  go_wp2_with fail
  refine (hi1.out _ S0.out.below).mono ?_
  rintro e w1 ⟨rfl, hb1⟩
  have S1 := S0.out.grow hb1
  have d0 := S1.cell (i := 1) rfl (o := 0) rfl
  have d1 := S1.cell (i := 1) rfl (o := 1) rfl
  replace S1 := Lib.hid S1
  clear S0 hb1 c0 c1 hi1
  go_wp2_with fail
  refine (hi2.out _ S1.out.below).mono ?_
  rintro e w2 ⟨rfl, hb2⟩
  have S2 := S1.out.grow hb2
  have c0 := S2.cell (i := 2) rfl (o := 0) rfl
  have c1 := S2.cell (i := 2) rfl (o := 1) rfl
  have d0 := S2.cell (i := 1) rfl (o := 0) rfl
  have d1 := S2.cell (i := 1) rfl (o := 1) rfl
  replace S2 := Lib.hid S2
  clear S1 hb2 hi2
  go_wp2_with fail
  refine (ho1.out _ S2.out.below).mono ?_
  rintro e w3 ⟨B, c, cs, rfl, T⟩
  have S3 := (S2.out.seq T).alloc_box #[.int .i64 va, .slice B xss.length c] 28
  have S3b := (S2.out.seq T).alloc_box #[.int .i64 (va + vb), .slice B xss.length c] 28
  have c0 := S3.cell (i := 4) rfl (o := 0) rfl
  have d0 := S3.cell (i := 3) rfl (o := 0) rfl
  have q0 := S3.cell (i := 0) rfl (o := 0) rfl
  have q1 := S3.frozen (i := 0) rfl 0
  replace S3b := Lib.hid S3b
  replace S3 := Lib.hid S3
  clear S2 S3 T ho1 c1 d1
  go_wp2_with fail
  obtain ⟨ob, hob⟩ : ∃ ob, w3.heap.size = ob := ⟨_, rfl⟩
  obtain ⟨rb, hrb⟩ : ∃ rb, w.heap.size + 1 + 1 = rb := ⟨_, rfl⟩
  obtain ⟨vx, hvx⟩ : ∃ vx, w.heap.size + 1 = vx := ⟨_, rfl⟩
  have S4 : Hid (Sp w (w3.alloc (.cells #[.int .i64 (va + vb), .slice B xss.length c] 28)) (Rows Ty.int 35 (.slice B xss.length c) cs xss :: Box ob 28 #[.int .i64 (va + vb), .slice B xss.length c] :: [Box rb 28 #[.int .i64 0, .slice none 0 0], Box vx 28 #[.int .i64 vb, .slice A2 yss.length p2], Box w.heap.size 28 #[.int .i64 va, .slice A1 xss.length p1]])) := by
    have h := S3b.out
    rw [hob, hrb, hvx] at h
    exact h.swap
  rw [hob, hrb, hvx]
  clear c0 d0 q0 q1 S3b hob hrb hvx
  go_loopw [7] (fun v7 wr => ∃ (i : Nat) (B' : Option Addr) (c' : Nat) (cs' : List Value) (zss : List (List Int)), i ≤ yss.length ∧ v7 = .int .i64 i ∧ Hid (zss = xss ++ (yss.take i).map (fun c => c.map (shV va))) ∧ Hid (Sp w wr (Rows Ty.int 35 (.slice B' zss.length c') cs' zss :: Box ob 28 #[.int .i64 (va + vb), .slice B' zss.length c'] :: [Box rb 28 #[.int .i64 0, .slice none 0 0], Box vx 28 #[.int .i64 vb, .slice A2 yss.length p2], Box w.heap.size 28 #[.int .i64 va, .slice A1 xss.length p1]]))) (fun v7 _ => yss.length - (intOf v7).toNat)
  case atStart => exact ⟨0, B, c, cs, xss, Nat.zero_le _, rfl, by simp [Hid], S4⟩
  case round =>
    clear S4
    obtain ⟨i, B', c', cs', zss, hi2, rfl, hzs, HS⟩ := hrel
    have e1 := HS.out.cell (i := 3) rfl (o := 1) rfl
    by_cases hlt : i < yss.length
    · have hzl : zss.length ≤ 1000 := by rw [hzs.out, List.length_append, List.length_map, List.length_take]; omega
      obtain ⟨ab, aoff, D0, dc0, rfl, m0, hI⟩ := hY.out.at_ i hlt
      have hs1 := Lib.hid (hsm.out _ (List.getElem_mem hlt))
      have hnx : Hid (zss ++ [yss[i].map (shV va)] = xss ++ (yss.take (i + 1)).map (fun c => c.map (shV va))) := by
        unfold Hid; rw [hzs.out, List.take_succ_eq_append_getElem hlt, List.map_append, List.append_assoc]; rfl
      have n0 := cell_below m0 HS.out.below
      have m0H := Lib.hid m0
      have hIH := Lib.hid hI
      generalize yss[i] = y at *
      obtain ⟨m, hm⟩ : ∃ m, y.length = m := ⟨_, rfl⟩
      rw [hm] at n0 m0H
      have hm1 : m ≤ 1000 := by have := hs1.out.1; omega
      replace hm := Lib.hid hm
      have S5 := Lib.hid (HS.out.own_made 3 1)
      clear hzs HS m0 hI
      go_wp2_with fail
      go_loopw [8, 9, 10] (fun v8 v9 _ wz => ∃ (k : Nat) (D : Option Addr) (dc : Nat) (ds : List Int), k ≤ m ∧ v9 = .int .i64 k ∧ v8 = .slice D k dc ∧ Hid (ds = (y.take k).map (shV va)) ∧ Hid (Sp w wz (Own 3 1 (.slice D k dc) k (ds.map (.int .i64)) :: Rows Ty.int 35 (.slice B' zss.length c') cs' zss :: Box ob 28 #[.int .i64 (va + vb), .slice B' zss.length c'] :: [Box rb 28 #[.int .i64 0, .slice none 0 0], Box vx 28 #[.int .i64 vb, .slice (some ⟨ab, aoff, none⟩) yss.length p2], Box w.heap.size 28 #[.int .i64 va, .slice A1 xss.length p1]]))) (fun _ v9 _ _ => m - (intOf v9).toNat)
      case atStart => exact ⟨0, _, 0, [], Nat.zero_le _, rfl, rfl, rfl, S5⟩
      case round =>
        clear S5
        obtain ⟨k, D, dc, ds, hk, rfl, rfl, hds, HS2⟩ := hrel
        rename World => wz
        have e1 := HS2.out.cell (i := 4) rfl (o := 1) rfl
        have a0 := HS2.out.cell (i := 5) rfl (o := 0) rfl
        have n1 := cell_below m0H.out HS2.out.below
        by_cases hk2 : k < m
        · have hky : k < y.length := by rw [hm.out]; exact hk2
          obtain ⟨xb, xo, rfl, x0⟩ := (hIH.out.grow HS2.out.below).at_ k hky
          have hxr := hs1.out.2 _ (List.getElem_mem hky)
          have hnx2 : Hid (ds ++ [shV va y[k]] = (y.take (k + 1)).map (shV va)) := by
            unfold Hid; rw [hds.out, List.take_succ_eq_append_getElem hky, List.map_append]; rfl
          generalize y[k] = x at *
          have hw2 : IntKind.i64.wrap (x + va) = x + va := IntWalk.i64_in _ (by omega)
          have hw3 : IntKind.i64.wrap (x - va) = x - va := IntWalk.i64_in _ (by omega)
          by_cases hpos : 0 < x
          · have hnx : Hid (ds ++ [x + va] = (y.take (k + 1)).map (shV va)) := by
              have h := hnx2.out
              unfold shV at h ⊢
              rw [if_pos hpos] at h
              exact h
            clear hnx2
            have S7 := HS2.out.alloc_box #[.int .i64 (x + va)] 3
            have kB := S7.cell (i := 0) rfl (o := 0) rfl
            replace S7 := Lib.hid S7
            clear HS2 hds
            go_wp2_with (at_builtin; refine wpList_append_src rfl _ _ rfl Tryz.underlying35 hj0 hy0 hy1 hy2 rfl (by decide) _ k _ rfl (S7.out.own (i := 1) rfl) _ 1 1 [.int .i64 (x + va)] rfl (Src.one kB) (by simp [Value.oneCell']) ?c3 ?c4 ?_)
            case c3 => unfold maxLen; omega
            case c4 => omega
            intro vE wE hownE hgE hatE
            have S8 := (S7.out.own_push (i := 1) rfl (bb _) hownE hgE (by simpa using hatE)).tail
            obtain ⟨aE, cE, rfl⟩ := own_slice hownE
            have hfl : ds.map (Value.int .i64) ++ [.int .i64 (x + va)] = (ds ++ [x + va]).map (.int .i64) := by simp
            simp only [List.set_cons_zero, List.set_cons_succ] at S8
            rw [hfl] at S8
            replace S8 := Lib.hid S8
            generalize ds ++ [x + va] = ds2 at *
            clear S7 kB hownE hgE hatE hfl
            go_wp2_with fail
            go_roundw
            case rel => exact ⟨k + 1, aE, cE, ds2, by omega, by go_num, rfl, hnx, S8⟩
            case measure => simp [intOf]; omega
          · have hnx : Hid (ds ++ [x - va] = (y.take (k + 1)).map (shV va)) := by
              have h := hnx2.out
              unfold shV at h ⊢
              rw [if_neg hpos] at h
              exact h
            clear hnx2
            have S7 := HS2.out.alloc_box #[.int .i64 (x - va)] 3
            have kB := S7.cell (i := 0) rfl (o := 0) rfl
            replace S7 := Lib.hid S7
            clear HS2 hds
            go_wp2_with (at_builtin; refine wpList_append_src rfl _ _ rfl Tryz.underlying35 hj0 hy0 hy1 hy2 rfl (by decide) _ k _ rfl (S7.out.own (i := 1) rfl) _ 1 1 [.int .i64 (x - va)] rfl (Src.one kB) (by simp [Value.oneCell']) ?c3 ?c4 ?_)
            case c3 => unfold maxLen; omega
            case c4 => omega
            intro vE wE hownE hgE hatE
            have S8 := (S7.out.own_push (i := 1) rfl (bb _) hownE hgE (by simpa using hatE)).tail
            obtain ⟨aE, cE, rfl⟩ := own_slice hownE
            have hfl : ds.map (Value.int .i64) ++ [.int .i64 (x - va)] = (ds ++ [x - va]).map (.int .i64) := by simp
            simp only [List.set_cons_zero, List.set_cons_succ] at S8
            rw [hfl] at S8
            replace S8 := Lib.hid S8
            generalize ds ++ [x - va] = ds2 at *
            clear S7 kB hownE hgE hatE hfl
            go_wp2_with fail
            go_roundw
            case rel => exact ⟨k + 1, aE, cE, ds2, by omega, by go_num, rfl, hnx, S8⟩
            case measure => simp [intOf]; omega
        · obtain rfl : k = m := by omega
          have hdl : Hid (ds = y.map (shV va)) := by unfold Hid; rw [hds.out, List.take_of_length_le (by rw [hm.out]; exact Nat.le_refl _)]
          have hRl : Hid (k = (y.map (shV va)).length) := by unfold Hid; rw [List.length_map, hm.out]
          have hsI : ∀ x ∈ y.map (shV va), I64 x := fun x hx => by
            obtain ⟨z, hz, rfl⟩ := List.mem_map.1 hx
            have := hs1.out.2 z hz
            unfold shV I64
            split <;> omega
          have hS2 := HS2.out
          rw [hdl.out] at hS2
          generalize y.map (shV va) = R at *
          have S6 : Sp w wz (Own 3 1 (.slice D R.length dc) R.length (R.map (.int .i64)) :: Rows Ty.int 35 (.slice B' zss.length c') cs' zss :: Box ob 28 #[.int .i64 (va + vb), .slice B' zss.length c'] :: [Box rb 28 #[.int .i64 0, .slice none 0 0], Box vx 28 #[.int .i64 vb, .slice (some ⟨ab, aoff, none⟩) yss.length p2], Box w.heap.size 28 #[.int .i64 va, .slice A1 xss.length p1]]) := by
            rw [← hRl.out]; exact hS2
          have S7 := (Sp.own_to_row S6 hsI).alloc_box #[.slice D R.length dc] 35
          have hrows := Lib.hid (S7.rows (i := 2) rfl)
          have kB := S7.cell (i := 0) rfl (o := 0) rfl
          have o1 := S7.cell (i := 3) rfl (o := 1) rfl
          have o2 := S6.cell (i := 2) rfl (o := 1) rfl
          replace S7 := Lib.hid S7
          have S6r := Lib.hid (Sp.own_to_row S6 hsI)
          rw [hRl.out]
          rw [hRl.out] at n1
          clear hS2 HS2 hds hdl S6 hsI a0
          go_wp2_with (at_builtin; refine wpList_append_src rfl _ _ rfl Tryz.underlying26 hi hz0 hz1 hz2 rfl (by decide) _ zss.length _ rfl hrows.out _ 1 1 [.slice D R.length dc] rfl (Src.one kB) (by simp [Value.oneCell']) ?c5 ?c6 ?_)
          case c5 => unfold maxLen; omega
          case c6 => omega
          intro vE wE hownE hgE hatE
          have S8 := S6r.out.rows_push (bal (bb _) _) hownE hgE (by simpa using hatE)
          obtain ⟨aE, cE, rfl⟩ := own_slice hownE
          have hfz := S8.frozen (i := 1) rfl 1
          have hc4 := S8.cell (i := 1) rfl (o := 1) rfl
          have hlen : zss.length + 1 = (zss ++ [R]).length := by simp
          have S9 : Hid (Sp w (wE.setCell ⟨ob, 1, none⟩ (.slice aE (zss.length + 1) cE)) (Rows Ty.int 35 (.slice aE (zss ++ [R]).length cE) (cs' ++ [.slice D R.length dc]) (zss ++ [R]) :: Box ob 28 #[.int .i64 (va + vb), .slice aE (zss ++ [R]).length cE] :: [Box rb 28 #[.int .i64 0, .slice none 0 0], Box vx 28 #[.int .i64 vb, .slice (some ⟨ab, aoff, none⟩) yss.length p2], Box w.heap.size 28 #[.int .i64 va, .slice A1 xss.length p1]])) := by
            have := S8.store (i := 1) rfl 1 (.slice aE (zss.length + 1) cE)
            rw [hlen] at this ⊢
            exact this
          clear S6r S7 S8 hrows kB o1 o2 hownE hgE hatE e1 n1
          replace hlen := Lib.hid hlen
          go_wp2_with fail
          go_roundw
          case rel => exact ⟨i + 1, aE, cE, _, zss ++ [R], by omega, by go_num, hnx, S9⟩
          case measure => simp [intOf]; omega
    · obtain rfl : i = yss.length := by omega
      rw [List.take_length] at hzs
      have ez : zss = apaL va xss yss := hzs.out
      subst ez
      have p0 := HS.out.cell (i := 1) rfl (o := 0) rfl
      have p1 := HS.out.cell (i := 1) rfl (o := 1) rfl
      obtain ⟨F, hr, -, -⟩ := HS.out.rows_done (i := 0) rfl
      have hcn := Lib.hid (l4Give_any (va + vb) B' c' (apaL va xss yss) F wr (Ty.row_down hr))
      have HS2 := Lib.hid HS.out
      clear HS hr hzs hY hsm
      generalize apaL va xss yss = Z at *
      generalize hgo : goodB (va + vb) Z = g at *
      go_wp2_with fail
      refine hcn.out.mono ?_
      rintro e w2 ⟨vq, A', n', c'', rfl, hb4, h1, h2⟩
      have S5 := HS2.out.grow hb4
      replace h1 := Lib.hid h1
      replace h2 := Lib.hid h2
      have r0 := S5.cell (i := 2) rfl (o := 0) rfl
      have r1 := S5.cell (i := 2) rfl (o := 1) rfl
      have f0 := S5.frozen (i := 2) rfl 0
      have f1 := S5.frozen (i := 2) rfl 1
      have SF := (S5.store (i := 2) rfl 0 (.int .i64 vq)).store (i := 2) rfl 1 (.slice A' n' c'')
      have j0 := SF.cell (i := 2) rfl (o := 0) rfl
      have j1 := SF.cell (i := 2) rfl (o := 1) rfl
      have SF2 := Lib.hid (Sp.pick [0] SF rfl)
      clear HS2 S5 SF hcn hb4
      go_wp2_with fail
      subst hgo
      exact bodyPost_ret (v := .tuple #[.agg #[.int .i64 vq, .slice A' n' c''], .bool (goodB (va + vb) Z)]) (by simp [results, Tryz.results18, go_sem, j0, j1]) rfl (CnfR.of SF2.out h1.out h2.out)
end Go.Proofs.YtahbepajeplcmaaGreat

/- Contracts: drawn inputs of laws on assignments. -/
namespace Go.Proofs.YtahbepajeplcmaaGreat
open Go.RowKit

def SetD (w : World) (e : Ending) (w' : World) : Prop := ∃ (vars l : Int) (D : Option Addr) (dc : Nat) (d : List Int), e = .returned (.tuple #[.int .i64 vars, .slice D d.length dc, .int .i64 l]) ∧ -1 ≤ vars ∧ vars ≤ 13 ∧ -14 ≤ l ∧ l ≤ 14 ∧ d.length ≤ 13 ∧ AllI d ∧ Sp w w' [Own 3 1 (.slice D d.length dc) d.length (d.map (.int .i64))]
def MergeD (w : World) (e : Ending) (w' : World) : Prop := ∃ (vars : Int) (D E : Option Addr) (dc ec : Nat) (d f : List Int), e = .returned (.tuple #[.int .i64 vars, .slice D d.length dc, .slice E f.length ec]) ∧ -1 ≤ vars ∧ vars ≤ 13 ∧ d.length ≤ 13 ∧ f.length ≤ 13 ∧ AllI d ∧ AllI f ∧
  Sp w w' [Own 3 1 (.slice D d.length dc) d.length (d.map (.int .i64)), Own 3 1 (.slice E f.length ec) f.length (f.map (.int .i64))]
def TotD (w : World) (e : Ending) (w' : World) : Prop := ∃ (vars x : Int), e = .returned (.tuple #[.int .i64 vars, .int .i64 x]) ∧ -1 ≤ vars ∧ vars ≤ 13 ∧ -1 ≤ x ∧ x ≤ 4096 ∧ Below w.heap.size w w'

/- left out: the seat has no spec.DrawSetLiteral -/

/- left out: the seat has no spec.DrawMergeAssignments -/

/- left out: the seat has no spec.DrawTotalOf -/
end Go.Proofs.YtahbepajeplcmaaGreat

/- Plain facts: what the law of assignments asks. -/
namespace Go.Proofs.YtahbepajeplcmaaGreat
open Go.RowKit

theorem lit_ok {vars l : Int} (hv : 0 ≤ vars ∧ vars ≤ 12) (h0 : l ≠ 0) (h1 : -vars ≤ l) (h2 : l ≤ vars) : litB vars l = true := by
  unfold litB inB
  rw [negV_small (by unfold I64; omega) (by omega)]
  simp only [Bool.and_eq_true, decide_eq_true_eq, bne_iff_ne]
  omega
theorem good_clause {vars : Int} {c : List Int} (hv : 0 ≤ vars ∧ vars ≤ 12) (g : GoodS c) (h : ∀ l ∈ c, -vars ≤ l ∧ l ≤ vars) : clauseB vars c = true := by
  unfold clauseB
  rw [Bool.and_eq_true, inB_true]
  refine ⟨hv, ?_⟩
  unfold cOkTo
  rw [List.all_eq_true]
  intro i hi
  have hi := List.mem_range.1 hi
  unfold cOk
  have e1 : c.getD i 0 = c[i] := by rw [List.getD_eq_getElem?_getD, List.getElem?_eq_getElem hi]; rfl
  rw [Bool.and_eq_true, e1]
  have hm := List.getElem_mem hi
  refine ⟨lit_ok hv (g.mem _ hm).1 (h _ hm).1 (h _ hm).2, ?_⟩
  cases i with
  | zero => rfl
  | succ i =>
    have e2 : c.getD (i + 1 - 1) 0 = c[i] := by rw [Nat.add_sub_cancel, List.getD_eq_getElem?_getD, List.getElem?_eq_getElem (by omega)]; rfl
    rw [e2]
    have := List.pairwise_iff_getElem.1 g.asc i (i + 1) (by omega) hi (by omega)
    unfold AscS at this
    rw [decide_eq_true this]
    simp
theorem tot_good {n b : Nat} (hn : n ≤ 12) : GoodS (totB n b) := by
  refine ⟨tot_lit hn, ?_⟩
  rw [List.pairwise_iff_getElem]
  intro i j hi hj hij
  have l1 := tot_lit hn _ (List.getElem_mem hi)
  have l2 := tot_lit hn _ (List.getElem_mem hj)
  unfold AscS
  rw [absV_lit l1, absV_lit l2]
  have key : ∀ k (h : k < (totB n b).length), (totB n b)[k].natAbs = k + 1 := fun k h => by
    simp only [totB, List.getElem_map, List.getElem_range]
    unfold totI
    split <;> omega
  rw [key, key]
  omega
theorem tot_clause {n b : Nat} (hn : n ≤ 12) : clauseB n (totB n b) = true := by
  refine good_clause (by omega) (tot_good hn) fun l hl => ?_
  obtain ⟨i, hi, rfl⟩ := List.mem_map.1 hl
  have := List.mem_range.1 hi
  unfold totI
  split <;> omega
theorem joinS_mem {a b c : List Int} (ga : GoodS a) (gb : GoodS b) (h : joinS a b = some c) : GoodS c ∧ ∀ x, x ∈ c ↔ x ∈ a ∨ x ∈ b := by
  rcases joinS_spec ga gb with ⟨h1, -⟩ | ⟨c', h1, h2, h3, -⟩
  · rw [h1] at h; cases h
  · rw [h1] at h
    cases h
    exact ⟨h2, h3⟩
theorem merge_facts {vars : Int} {a b c : List Int} (h : mergeR vars a b = some c) : clauseB vars a = true ∧ clauseB vars b = true ∧ clauseB vars c = true ∧ a.all (hasI c) = true ∧ b.all (hasI c) = true := by
  unfold mergeR at h
  split at h
  · rename_i hq
    rw [Bool.and_eq_true] at hq
    obtain ⟨gc, hm⟩ := joinS_mem (good_s hq.1) (good_s hq.2) h
    have pa := clause_parts hq.1
    have pb := clause_parts hq.2
    refine ⟨hq.1, hq.2, good_clause pa.1 gc fun l hl => ?_, ?_, ?_⟩
    · rcases (hm l).1 hl with h | h
      · exact (pa.2.1 l h).2
      · exact (pb.2.1 l h).2
    · rw [List.all_eq_true]
      exact fun x hx => hasS_iff.2 ((hm x).2 (.inl hx))
    · rw [List.all_eq_true]
      exact fun x hx => hasS_iff.2 ((hm x).2 (.inr hx))
  · cases h
theorem set_facts {vars : Int} {a c : List Int} {l : Int} (h : setR vars a l = some c) : clauseB vars c = true ∧ inB (absV l) 1 vars = true ∧ hasI (withoutB c (absV l)) l = false ∧ hasI c l = true ∧ absV l = if l < 0 then -l else l := by
  unfold setR at h
  split at h
  · rename_i hq
    rw [Bool.and_eq_true] at hq
    cases h
    have pa := clause_parts hq.1
    have hl := lit_small pa.1 hq.2
    have hls : LitS l := by unfold LitS; omega
    refine ⟨good_clause pa.1 (set_good (good_s hq.1) hls) fun x hx => ?_, ?_, ?_, ?_, hls.abs⟩
    · unfold setS at hx
      rcases memS_putB.1 hx with rfl | hx
      · exact hl.2
      · exact (pa.2.1 x (memS_without.1 hx).1).2
    · rw [inB_true, hls.abs]
      split <;> omega
    · rw [hasS_not]
      intro hx
      exact (memS_without.1 hx).2 rfl
    · rw [hasS_iff]
      unfold setS
      exact memS_putB.2 (.inl rfl)
  · cases h
theorem mergeR_len {vars : Int} {a b : List Int} (la : a.length ≤ 13) (lb : b.length ≤ 13) : ((mergeR vars a b).getD []).length ≤ 1000 := by
  cases h : mergeR vars a b with
  | none => simp
  | some c =>
    have := (merge_facts h).2.2.1
    exact (clause_s this).2
theorem setR_len {vars : Int} {a : List Int} {l : Int} : ((setR vars a l).getD []).length ≤ 1000 := by
  cases h : setR vars a l with
  | none => simp
  | some c => exact (clause_s (set_facts h).1).2
end Go.Proofs.YtahbepajeplcmaaGreat
