/- Lemmas and contracts for a law, put together out of several texts: PnN DgU CyE RsA CyF DuG DtH DtI DgV OpenB DuH. -/
import Derived.Test.YtbemodacpimiiaaGreatMg6
import Derived.Test.YtbemodacpimiiaaGreatMg12
import Derived.Test.YtbemodacpimiiaaGreatMg11
import Derived.Test.YtbemodacpimiiaaGreatMg5
import Derived.Lib.Hide
import Derived.Deep.QuietTactic
import Derived.BigQuiet
import Derived.Lib.QuietBelow
import Derived.Test.YtbemodacpimiiaaGreatMg8
import Derived.Test.YtbemodacpimiiaaGreatMg1
/- Contracts: numbers of variables and literals that are drawn, up to thirteen. -/
namespace Go.Proofs.YtbemodacpimiiaaGreat
open Go.RowKit

/- left out: the seat has no (*loop.example/g01080/spec.l1Cur).vars6 -/

theorem lit_three13 {w1 : World} {vars : Int} {g A cl cc : Nat} {ca : Option Addr} (h : CurIs A g ca cl cc w1) (hv : -1 ≤ vars ∧ vars ≤ 13) (hA : A ≤ 80000000) :
    Calls Tryz.prog 59 #[.pointer (some ⟨g, 0, none⟩), .slice (some ⟨w1.heap.size, 0, none⟩) 3 3] (w1.alloc (.cells #[.int .i64 0, .int .i64 (vars + 1), .int .i64 (-vars - 1)] 3)) (CurPost (IntIn (-14) 14) (A + 2) g ca cl cc (w1.alloc (.cells #[.int .i64 0, .int .i64 (vars + 1), .int .i64 (-vars - 1)] 3))) := by
  have hg := h.lt
  refine cur_among (-14) 14 w1.heap.size 0 3 3 A g ca cl cc _ (h.grow (bal (bb _) _)) (by omega) (by decide) (by decide) (ints_new rfl fun j hj => ?_) (by omega)
  match j, hj with
  | 0, _ => exact ⟨_, rfl, by decide, by decide⟩
  | 1, _ => exact ⟨_, rfl, by omega, by omega⟩
  | 2, _ => exact ⟨_, rfl, by omega, by omega⟩

set_option maxRecDepth 100000 in
set_option maxHeartbeats 4000000 in
theorem cur_lit13 (vars : Int) (hv : -1 ≤ vars ∧ vars ≤ 13) (A g : Nat) (ca : Option Addr) (cl cc : Nat) (w : World) (h : CurIs A g ca cl cc w) (hA : A ≤ 70000000) :
    Calls Tryz.prog 113 #[.pointer (some ⟨g, 0, none⟩), .int .i64 vars] w (CurPost (IntIn (-14) 14) (A + 8) g ca cl cc w) := by
  have hg := h.lt
  have w1' : IntKind.i64.wrap (vars + 1) = vars + 1 := IntWalk.i64_in _ (by omega)
  have w2' : IntKind.i64.wrap (-vars) = -vars := IntWalk.i64_in _ (by omega)
  have w3' : IntKind.i64.wrap (-vars - 1) = -vars - 1 := IntWalk.i64_in _ (by omega)
  have S0 := Lib.hid (CS.start h)
  by_cases hlt : vars < 1
  · have hcall := Lib.hid (lit_three13 h hv (by omega))
    go_enter Tryz.func113, Tryz.ntmps113
    go_wp2_with fail
    refine hcall.out.mono ?_
    rintro e w2 ⟨_, ⟨z, hz0, hz1, rfl⟩, rfl, hi2, hc2⟩
    have hC := ((S0.out.alloc _).turn hi2 hc2).chg
    clear S0 hc2 hcall
    go_wp2_with fail
    go_ret
    exact ⟨_, ⟨z, hz0, hz1, rfl⟩, rfl, hi2.mono (by omega), hC⟩
  · go_enter Tryz.func113, Tryz.ntmps113
    go_wp2_with fail
    refine (cur_one 40 A g ca cl cc w h (by omega) (by omega)).mono ?_
    rintro e w1 ⟨_, ⟨q, rfl⟩, rfl, hi1, hc1⟩
    have S1 := Lib.hid (S0.out.turn hi1 hc1)
    have hg1 := hi1.lt
    clear S0 hc1
    cases q
    · go_wp2_with fail
      refine (cur_pick_at (lo := 0) (hi := vars - 1) hi1 (by omega) (by omega) (by omega) (by omega) (by omega)).mono ?_
      rintro e w2 ⟨_, ⟨x, hx0, hx1, rfl⟩, rfl, hi2, hc2⟩
      have S2 := Lib.hid (S1.out.turn hi2 hc2)
      have w4 : IntKind.i64.wrap (1 + x) = 1 + x := IntWalk.i64_in _ (by omega)
      have w5 : IntKind.i64.wrap (-(1 + x)) = -(1 + x) := IntWalk.i64_in _ (by omega)
      clear S1 hc2
      go_wp2_with fail
      refine (cur_one 2 _ g ca cl cc _ hi2 (by omega) (by omega)).mono ?_
      rintro e w3 ⟨_, ⟨q, rfl⟩, rfl, hi3, hc3⟩
      have hC := (S2.out.turn hi3 hc3).chg
      clear S2 hc3
      cases q
      · go_wp2_with fail
        go_ret
        exact ⟨_, ⟨1 + x, by omega, by omega, rfl⟩, rfl, hi3.mono (by omega), hC⟩
      · go_wp2_with fail
        go_ret
        exact ⟨_, ⟨-(1 + x), by omega, by omega, rfl⟩, rfl, hi3.mono (by omega), hC⟩
    · have hcall := Lib.hid (lit_three13 hi1 hv (by omega))
      go_wp2_with fail
      refine hcall.out.mono ?_
      rintro e w2 ⟨_, ⟨z, hz0, hz1, rfl⟩, rfl, hi2, hc2⟩
      have hC := ((S1.out.alloc _).turn hi2 hc2).chg
      clear S1 hc2 hcall
      go_wp2_with fail
      go_ret
      exact ⟨_, ⟨z, hz0, hz1, rfl⟩, rfl, hi2.mono (by omega), hC⟩

theorem among_four {w1 : World} {vars : Int} {g A cl cc : Nat} {ca : Option Addr} (h : CurIs A g ca cl cc w1) (hv : -1 ≤ vars ∧ vars ≤ 13) (hA : A ≤ 80000000) :
    Calls Tryz.prog 59 #[.pointer (some ⟨g, 0, none⟩), .slice (some ⟨w1.heap.size, 0, none⟩) 4 4] (w1.alloc (.cells #[.int .i64 0, .int .i64 (vars + 1), .int .i64 (-vars - 1), .int .i64 (-9223372036854775808)] 3)) (CurPost (IntIn (-9223372036854775808) 14) (A + 2) g ca cl cc (w1.alloc (.cells #[.int .i64 0, .int .i64 (vars + 1), .int .i64 (-vars - 1), .int .i64 (-9223372036854775808)] 3))) := by
  have hg := h.lt
  refine cur_among (-9223372036854775808) 14 w1.heap.size 0 4 4 A g ca cl cc _ (h.grow (bal (bb _) _)) (by omega) (by decide) (by decide) (ints_new rfl fun j hj => ?_) (by omega)
  match j, hj with
  | 0, _ => exact ⟨_, rfl, by decide, by decide⟩
  | 1, _ => exact ⟨_, rfl, by omega, by omega⟩
  | 2, _ => exact ⟨_, rfl, by omega, by omega⟩
  | 3, _ => exact ⟨_, rfl, by decide, by decide⟩
def AllI (c : List Int) : Prop := ∀ x ∈ c, I64 x
theorem rowPost_of {n : Nat} {R : List Int → Prop} {A A0 g : Nat} {ca : Option Addr} {cl cc : Nat} {w w' : World} {ps : List Asn} {i : Nat} {B : Option Addr} {cap : Nat} {c : List Int} (h : CS w g ca cl cc A0 w' ps)
    (hi : ps[i]? = some (Own 3 1 (.slice B c.length cap) c.length (c.map (.int .i64)))) (hl : c.length ≤ n) (hR : R c) (hA : A0 ≤ A) : RowPost n R A g ca cl cc w (.returned (.slice B c.length cap)) w' :=
  ⟨_, c, rfl, h.owns_end hi, hl, hR, h.cur.mono hA, h.chg⟩

set_option maxRecDepth 100000 in
set_option maxHeartbeats 8000000 in
theorem cur_anyClause (vars : Int) (hv : -1 ≤ vars ∧ vars ≤ 13) (A g : Nat) (ca : Option Addr) (cl cc : Nat) (w : World) (h : CurIs A g ca cl cc w) (hA : A ≤ 50000000) :
    Calls Tryz.prog 68 #[.pointer (some ⟨g, 0, none⟩), .int .i64 vars] w (RowPost 5 AllI (A + 80) g ca cl cc w) := by
  have hg := h.lt
  have S0 := Lib.hid (CS.start h)
  have w1' : IntKind.i64.wrap (vars + 1) = vars + 1 := IntWalk.i64_in _ (by omega)
  have w2' : IntKind.i64.wrap (-vars) = -vars := IntWalk.i64_in _ (by omega)
  have w3' : IntKind.i64.wrap (-vars - 1) = -vars - 1 := IntWalk.i64_in _ (by omega)
  go_enter Tryz.func68, Tryz.ntmps68
  go_wp2_with fail
  refine (cur_clause vars hv A g ca cl cc w h (by omega)).mono ?_
  rintro e w1 ⟨v, c, rfl, ho, hl, hW, hi1, hc1⟩
  have hne := owns_ge ho
  obtain ⟨B, cap, rfl⟩ := own_slice ho
  have hI := Lib.hid (hW.i64 (by decide))
  have S1 : Hid (CS w g ca cl cc (A + 60) w1 [Own 3 1 (.slice B c.length cap) c.length (c.map (.int .i64))]) := by
    refine ⟨⟨A, h⟩, hi1, hc1, _, ⟨(Value.slice B c.length cap).ownBlock.toList, [], by rw [List.append_nil], by simp, ⟨rfl, owns_zero ho⟩, rfl⟩, fun b hb => ?_⟩
    exact hne b (by simpa using hb)
  clear ho hW hi1 hc1 hne S0
  have hcur := Lib.hid S1.out.cur
  go_wp2_with fail
  refine (cur_pick_at (lo := 0) (hi := 31) hcur.out (by omega) (by omega) (by omega) (by omega) (by omega)).mono ?_
  rintro e w2 ⟨_, ⟨x, hx0, hx1, rfl⟩, rfl, hi2, hc2⟩
  have S2 := Lib.hid (S1.out.turn hi2 hc2)
  clear S1 hcur hi2 hc2
  have hx5 : x = 0 ∨ x = 1 ∨ x = 2 ∨ 2 < x := by omega
  rcases hx5 with rfl | rfl | rfl | hx5
  · have hlit := Lib.hid (cur_lit13 vars hv _ g ca cl cc _ S2.out.cur (by omega))
    obtain ⟨i0, hi0, hz0, hz1, hz2⟩ := info_parts infoInt
    go_wp2_with fail
    refine hlit.out.mono ?_
    rintro e w3 ⟨_, ⟨z, hz3, hz4, rfl⟩, rfl, hi3, hc3⟩
    have S3 := (S2.out.turn hi3 hc3).alloc_box #[.int .i64 z] 3
    have kB := S3.cell (i := 0) rfl (o := 0) rfl
    replace S3 := Lib.hid S3
    clear S2 hlit hi3 hc3
    go_wp2_with (at_builtin; refine wpList_append_src rfl _ _ rfl Tryz.underlying37 hi0 hz0 hz1 hz2 rfl (by decide) _ _ _ rfl (S3.out.own (i := 1) rfl) _ 1 1 [.int .i64 z] rfl (Src.one kB) (by simp [Value.oneCell']) ?c3 ?c4 ?_)
    case c3 => unfold maxLen; omega
    case c4 => omega
    intro vY wY hownY hgY hatY
    have S4 := (S3.out.own_push (i := 1) rfl (bb _) hownY hgY (by simpa using hatY)).tail
    obtain ⟨aY, cY, rfl⟩ := own_slice hownY
    have hlen : c.length + 1 = (c ++ [z]).length := by simp
    have hI2 : AllI (c ++ [z]) := fun y hy => by
      rcases List.mem_append.1 hy with hy | hy
      · exact hI.out y hy
      · obtain rfl : y = z := by simpa using hy
        unfold I64; omega
    have S5 : CS w g ca cl cc (A + 60 + 10 + 8) wY [Own 3 1 (.slice aY (c ++ [z]).length cY) (c ++ [z]).length ((c ++ [z]).map (.int .i64))] := by
      rw [← hlen, List.map_append]; exact S4.mono (by omega)
    have hl2 : (c ++ [z]).length ≤ 5 := by omega
    rw [hlen]
    generalize c ++ [z] = c2 at *
    have hP := Lib.hid (rowPost_of (n := 5) (R := AllI) (A := A + 80) S5 (i := 0) rfl hl2 hI2 (by omega))
    clear S3 S4 S5 hlen hI2 hl2 kB hownY hgY hatY
    go_wp2_with fail
    go_ret
    exact hP.out
  · by_cases hl0 : 0 < c.length
    · have d0 : decide ((0 : Int) < (c.length : Int)) = true := decide_eq_true (by omega)
      have hcall := Lib.hid (among_four S2.out.cur hv (by omega))
      go_wp2_with fail
      refine hcall.out.mono ?_
      rintro e w3 ⟨_, ⟨z, hz3, hz4, rfl⟩, rfl, hi3, hc3⟩
      have S3 := (S2.out.alloc _).turn hi3 hc3
      obtain ⟨gx, cap', cur, e1, -, hh, -, -, -, ht⟩ := own_block (S3.own (i := 0) rfl) hl0
      simp only [Value.slice.injEq] at e1
      obtain ⟨rfl, -, rfl⟩ := e1
      have hcx := (own_at hh ht (o := 0) (by omega)).1
      have hfx := (own_at hh ht (o := 0) (by omega)).2
      have S4 := S3.own_put (i := 0) rfl (.int .i64 z) (o := 0) (by omega)
      have hI2 : AllI (c.set 0 z) := fun y hy => by
        rcases List.mem_or_eq_of_mem_set hy with hy | rfl
        · exact hI.out y hy
        · unfold I64; omega
      have hlen : (c.set 0 z).length = c.length := by simp
      have S5 : CS w g ca cl cc (A + 80) (w3.setCell ⟨gx, 0, none⟩ (.int .i64 z)) [Own 3 1 (.slice (some ⟨gx, 0, none⟩) (c.set 0 z).length cap) (c.set 0 z).length ((c.set 0 z).map (.int .i64))] := by
        rw [hlen, List.map_set]; exact S4.mono (by omega)
      have hP := rowPost_of (n := 5) (R := AllI) (A := A + 80) S5 (i := 0) rfl (by omega) hI2 (by omega)
      rw [hlen] at hP
      replace hP := Lib.hid hP
      have hcx' : ∃ u, w3.cell? ⟨gx, 0, none⟩ = some u := by
        rw [hcx]
        exact ⟨_, List.getElem?_eq_getElem (by simp; omega)⟩
      obtain ⟨u, hu⟩ := hcx'
      clear S2 S3 S4 S5 hI2 hh ht hcx hi3 hc3 hcall hlen
      go_wp2_with fail
      go_ret
      exact hP.out
    · have d0 : decide ((0 : Int) < (c.length : Int)) = false := decide_eq_false (by omega)
      have hP := Lib.hid (rowPost_of (n := 5) (R := AllI) (A := A + 80) S2.out (i := 0) rfl (by omega) hI.out (by omega))
      clear S2
      go_wp2_with fail
      go_ret
      exact hP.out
  · by_cases hl0 : 1 < c.length
    · have d0 : decide ((1 : Int) < (c.length : Int)) = true := decide_eq_true (by omega)
      obtain ⟨gx, cap', cur, e1, -, hh, -, -, -, ht⟩ := own_block (S2.out.own (i := 0) rfl) (by omega)
      simp only [Value.slice.injEq] at e1
      obtain ⟨rfl, -, rfl⟩ := e1
      obtain ⟨x0, hx0'⟩ : ∃ z, (c.map (Value.int .i64))[0]? = some (.int .i64 z) ∧ c[0]? = some z := ⟨c[0], by rw [List.getElem?_map, List.getElem?_eq_getElem]; rfl, List.getElem?_eq_getElem _⟩
      obtain ⟨x1, hx1'⟩ : ∃ z, (c.map (Value.int .i64))[1]? = some (.int .i64 z) ∧ c[1]? = some z := ⟨c[1], by rw [List.getElem?_map, List.getElem?_eq_getElem]; rfl, List.getElem?_eq_getElem _⟩
      have k0 := (own_at hh ht (o := 0) (by omega)).1.trans hx0'.1
      have k1 := (own_at hh ht (o := 1) (by omega)).1.trans hx1'.1
      have f0 := (own_at hh ht (o := 0) (by omega)).2
      have f1 := (own_at hh ht (o := 1) (by omega)).2
      have S3 := S2.out.own_put (i := 0) rfl (.int .i64 x1) (o := 0) (by omega)
      have S4 := S3.own_put (i := 0) rfl (.int .i64 x0) (o := 1) (by omega)
      have hI2 : AllI ((c.set 0 x1).set 1 x0) := fun y hy => by
        rcases List.mem_or_eq_of_mem_set hy with hy | rfl
        · rcases List.mem_or_eq_of_mem_set hy with hy | rfl
          · exact hI.out y hy
          · exact hI.out _ (List.mem_of_getElem? hx1'.2)
        · exact hI.out _ (List.mem_of_getElem? hx0'.2)
      have hlen : ((c.set 0 x1).set 1 x0).length = c.length := by simp
      have S5 : CS w g ca cl cc (A + 80) ((w2.setCell ⟨gx, 0, none⟩ (.int .i64 x1)).setCell ⟨gx, 1, none⟩ (.int .i64 x0)) [Own 3 1 (.slice (some ⟨gx, 0, none⟩) ((c.set 0 x1).set 1 x0).length cap) ((c.set 0 x1).set 1 x0).length (((c.set 0 x1).set 1 x0).map (.int .i64))] := by
        rw [hlen, List.map_set, List.map_set]; exact S4.mono (by omega)
      have hP := rowPost_of (n := 5) (R := AllI) (A := A + 80) S5 (i := 0) rfl (by omega) hI2 (by omega)
      rw [hlen] at hP
      replace hP := Lib.hid hP
      have hI64a : I64 x0 := hI.out _ (List.mem_of_getElem? hx0'.2)
      have hI64b : I64 x1 := hI.out _ (List.mem_of_getElem? hx1'.2)
      clear S2 S3 S4 S5 hI2 hh ht hlen hx0' hx1'
      go_wp2_with fail
      go_ret
      exact hP.out
    · have d0 : decide ((1 : Int) < (c.length : Int)) = false := decide_eq_false (by omega)
      have hP := Lib.hid (rowPost_of (n := 5) (R := AllI) (A := A + 80) S2.out (i := 0) rfl (by omega) hI.out (by omega))
      clear S2
      go_wp2_with fail
      go_ret
      exact hP.out
  · have x0 : (x == 0) = false := by simp; omega
    have x1 : (x == 1) = false := by simp; omega
    have x2 : (x == 2) = false := by simp; omega
    have hP := Lib.hid (rowPost_of (n := 5) (R := AllI) (A := A + 80) S2.out (i := 0) rfl (by omega) hI.out (by omega))
    clear S2
    go_wp2_with fail
    go_ret
    exact hP.out
end Go.Proofs.YtbemodacpimiiaaGreat

/- Contracts: the inputs of the law of diagrams, drawn. -/
namespace Go.Proofs.YtbemodacpimiiaaGreat
open Go.RowKit

theorem NdAt.chg {F : List Nat} {w w' : World} {A : Option Addr} {ns : List Nd} (h : NdAt w A ns) (hc : Chg F w w') (hF : ∀ a, A = some a → a.block ∉ F) : NdAt w' A ns := by
  refine ⟨fun j hj => ?_, h.ok⟩
  obtain ⟨b, off, e, h1, h2, h3⟩ := h.at_ j hj
  have hb := hF _ e
  exact ⟨b, off, e, hc.cell h1 hb, hc.cell h2 hb, hc.cell h3 hb⟩
section
variable {w0 w W : World} {ps : List Asn} {g cl cc : Nat} {ca : Option Addr}
theorem Sp.alloc_cur (h : Sp w0 w ps) (ca : Option Addr) (cl cc : Nat) : Sp w0 (w.alloc (.cells #[.slice ca cl cc, .int .i64 0, .int .u64 0] 81)) (CurA 0 w.heap.size ca cl cc :: ps) :=
  h.new (bal (bb _) _) (F := [w.heap.size]) ⟨rfl, 0, 0, heap_alloc_new w _, Nat.le_refl 0, Int.le_refl 0, by omega⟩ (by simp)

end

/- left out: the seat has no spec.DrawAndDiagrams -/

/- left out: the seat has no spec.DrawForgetInDiagram -/

/- left out: the seat has no spec.DrawSetInDiagram -/
end Go.Proofs.YtbemodacpimiiaaGreat

/- Contract: a drawn Cnf. -/
namespace Go.Proofs.YtbemodacpimiiaaGreat
open Go.RowKit

set_option maxRecDepth 100000 in
set_option maxHeartbeats 16000000 in
theorem cur_cnf (A g : Nat) (ca : Option Addr) (cl cc : Nat) (w : World) (h : CurIs A g ca cl cc w) (hA : A ≤ 30000000) :
    Calls Tryz.prog 57 #[.pointer (some ⟨g, 0, none⟩)] w (CnfPost (A + 2000) g ca cl cc w) := by
  have hg := h.lt
  have S0 := Lib.hid ((CS.start h).alloc_box #[.int .i64 0, .slice none 0 0] 45)
  obtain ⟨i1, hi, hz0, hz1, hz2⟩ := info_parts infoRow
  clear h
  have hcur := Lib.hid S0.out.cur
  go_enter Tryz.func57, Tryz.ntmps57
  go_wp2_with fail
  refine (cur_one 4 A g ca cl cc _ hcur.out (by omega) (by omega)).mono ?_
  rintro e w1 ⟨_, ⟨q, rfl⟩, rfl, hi1, hc1⟩
  have S1 := Lib.hid (S0.out.turn hi1 hc1)
  clear S0 hcur hi1 hc1
  cases q
  case true =>
    have hh := Lib.hid (cur_hard _ g ca cl cc _ S1.out.cur (by omega))
    go_wp2_with fail
    refine hh.out.mono ?_
    rintro e w2 ⟨vars, B, cap, cs, ys, rfl, hv0, hv1, hyl, HC, T2⟩
    replace HC := Lib.hid HC
    have S2 := S1.out.comp T2
    have r0 := S2.cell (i := 1) rfl (o := 0) rfl
    have r1 := S2.cell (i := 1) rfl (o := 1) rfl
    have f0 := S2.frozen (i := 1) rfl 0
    have f1 := S2.frozen (i := 1) rfl 1
    have SF := (S2.store (i := 1) rfl 0 (.int .i64 vars)).store (i := 1) rfl 1 (.slice B ys.length cap)
    have j0 := SF.cell (i := 1) rfl (o := 0) rfl
    have j1 := SF.cell (i := 1) rfl (o := 1) rfl
    have hR := Lib.hid ((CS.front (qs := [_]) SF).mono (show _ ≤ A + 2000 by omega))
    clear SF S2 S1 T2 hh
    go_wp2_with fail
    exact bodyPost_ret (v := .agg #[.int .i64 vars, .slice B ys.length cap]) (by simp [results, Tryz.results57, go_sem, j0, j1]) rfl ⟨vars, B, cap, cs, ys, rfl, by omega, by omega, by omega, HC.out, hR.out⟩
  case false =>
    have hgl : g < w1.heap.size := S1.out.cur.lt
    have hcall := Lib.hid (cur_among (2) 5 w1.heap.size 0 5 5 _ g ca cl cc (w1.alloc (.cells #[.int .i64 2, .int .i64 3, .int .i64 3, .int .i64 4, .int .i64 5] 3)) (S1.out.cur.grow (bal (bb _) _)) (by omega) (by decide) (by decide) (ints_new rfl fun j hj => by
      match j, hj with
      | 0, _ => exact ⟨_, rfl, by decide, by decide⟩
      | 1, _ => exact ⟨_, rfl, by decide, by decide⟩
      | 2, _ => exact ⟨_, rfl, by decide, by decide⟩
      | 3, _ => exact ⟨_, rfl, by decide, by decide⟩
      | 4, _ => exact ⟨_, rfl, by decide, by decide⟩
      ) (by omega))
    go_wp2_with fail
    refine hcall.out.mono ?_
    rintro e w2 ⟨_, ⟨vars, hva0, hva1, rfl⟩, rfl, hi2, hc2⟩
    have S2 := (S1.out.alloc _).turn hi2 hc2
    have S3 := (S2.rows_made Ty.int 37).alloc_box #[.int .i64 vars, .slice (some ⟨w2.heap.size, 0, none⟩) 0 0] 45
    simp only [World.size_alloc] at S3
    obtain ⟨fb, hfb⟩ : ∃ fb, w2.heap.size + 1 = fb := ⟨_, rfl⟩
    rw [hfb] at S3
    have S4 : Hid (CS w g ca cl cc (A + 2 + 2) _ [Rows Ty.int 37 (.slice (some ⟨w2.heap.size, 0, none⟩) ([] : List (List Int)).length 0) [] ([] : List (List Int)), Box fb 45 #[.int .i64 vars, .slice (some ⟨w2.heap.size, 0, none⟩) ([] : List (List Int)).length 0], Box w.heap.size 45 #[.int .i64 0, .slice none 0 0]]) := S3.swap
    have hcur := Lib.hid S4.out.cur
    clear S1 S2 S3 hi2 hc2 hcall
    go_wp2_with fail
    refine (cur_pick_at (lo := 0) (hi := 9) hcur.out (by omega) (by omega) (by omega) (by omega) (by omega)).mono ?_
    rintro e w3 ⟨_, ⟨x, hx0, hx1, rfl⟩, rfl, hi3, hc3⟩
    obtain ⟨m0, rfl⟩ := Int.eq_ofNat_of_zero_le hx0
    have hm9 : m0 ≤ 9 := by omega
    have S5 := Lib.hid ((S4.out.turn hi3 hc3).mono (show _ ≤ A + 20 + 100 * (9 - m0) by omega))
    clear S4 hcur hi3 hc3 hx0 hx1
    go_wp2_with fail
    go_loopw [4] (fun vv wr => ∃ (m : Nat) (B : Option Addr) (cap : Nat) (cs : List Value) (ys : List (List Int)), m ≤ 9 ∧ vv = .int .i64 m ∧ ys.length + m ≤ 9 ∧ Hid (SmallR 13 ys) ∧ Hid (CS w g ca cl cc (A + 20 + 100 * (9 - m)) wr [Rows Ty.int 37 (.slice B ys.length cap) cs ys, Box fb 45 #[.int .i64 vars, .slice B ys.length cap], Box w.heap.size 45 #[.int .i64 0, .slice none 0 0]])) (fun vv _ => (intOf vv).toNat)
    case atStart => exact ⟨m0, _, _, [], [], hm9, rfl, by simpa using hm9, (fun c hc => by simp at hc), S5⟩
    case round =>
      clear S5
      obtain ⟨m, B, cap, cs, ys, hm2, rfl, hyl, HC, HS⟩ := hrel
      by_cases hm : 0 < m
      · have e0 : decide ((0 : Int) < (m : Int)) = true := decide_eq_true (by omega)
        have hmw : IntKind.i64.wrap ((m : Int) - 1) = ((m - 1 : Nat) : Int) := by rw [IntWalk.i64_in _ (by omega)]; omega
        as_aux_lemma =>
          have l0 := HS.out.cell (i := 1) rfl (o := 0) rfl
          have l1 := HS.out.cell (i := 1) rfl (o := 1) rfl
          go_wp2_with fail
          refine wp_region_tail_lit (S := (fun w' => w'.cell? ⟨fb, 0, none⟩ = some (.int .i64 vars) ∧ w'.cell? ⟨fb, 1, none⟩ = some (.slice B ys.length cap))) 7 [false, false, false, false, false, false, false, false, false, false] (by kernel_rfl) (by kernel_rfl) (by kernel_rfl) ?_ ?_
          · exact ⟨l0, l1⟩
          intro hSc
          (refine walkT_take (i := 0) (v := ?_) rfl (by kernel_rfl) (by decide) (by kernel_rfl) (by kernel_rfl) (fun _ _ _ h => h) (Or.inl ⟨by rfl, ?_⟩) (by assumption) ?_; rotate_left; (focus (intro w hSw; (try dsimp only at hSw); go_simp; (try with_reducible rfl); done)); (try simp only [put_rules]))
          (refine walkT_take (i := 1) (v := ?_) rfl (by kernel_rfl) (by decide) (by kernel_rfl) (by kernel_rfl) (fun _ _ _ h => h) (Or.inl ⟨by rfl, ?_⟩) (by assumption) ?_; rotate_left; (focus (intro w hSw; (try dsimp only at hSw); go_simp; (try with_reducible rfl); done)); (try simp only [put_rules]))
          (refine walkT_take (i := 2) (v := ?_) rfl (by kernel_rfl) (by decide) (by kernel_rfl) (by kernel_rfl) (fun _ _ _ h => h) (Or.inl ⟨by rfl, ?_⟩) (by assumption) ?_; rotate_left; (focus (intro w hSw; (try dsimp only at hSw); go_simp; (try with_reducible rfl); done)); (try simp only [put_rules]))
          (refine walkT_take (i := 3) (v := ?_) rfl (by kernel_rfl) (by decide) (by kernel_rfl) (by kernel_rfl) (fun _ _ _ h => h) (Or.inl ⟨by rfl, ?_⟩) (by assumption) ?_; rotate_left; (focus (intro w hSw; (try dsimp only at hSw); go_simp; (try with_reducible rfl); done)); (try simp only [put_rules]))
          (refine walkT_take (i := 4) (v := ?_) rfl (by kernel_rfl) (by decide) (by kernel_rfl) (by kernel_rfl) (fun _ _ _ h => h) (Or.inl ⟨by rfl, ?_⟩) (by assumption) ?_; rotate_left; (focus (intro w hSw; (try dsimp only at hSw); go_simp; (try with_reducible rfl); done)); (try simp only [put_rules]))
          (refine walkT_ready (rs := [5]) (by kernel_rfl) (by simp) (by decide) ?_; refine AllT.cons rfl (fun K hK => ?_) AllT.nil)
          go_simp
          go_at_call 108
          have S3 := HS.out.drew
          have hcall := Lib.hid (cur_clause vars (by omega) _ g ca cl cc _ S3.cur (by omega))
          refine hcall.out.mono ?_
          rintro e w3 ⟨v, c, rfl, ho, hl, hW, hi3, hc3⟩
          have S4 := S3.comp (row_cs S3.cur hi3 hc3 ho)
          obtain ⟨B2, cap2, rfl⟩ := own_slice ho
          have S5 := Lib.hid (CS.own_to_row (ps := _) S4 (hW.i64 (by decide)))
          clear hcall S3 S4 HS l0 l1 hi3 hc3 ho
          go_wp2_with fail
          refine hK.out _ _ ⟨S5.out.cell (i := 2) rfl (o := 0) rfl, S5.out.cell (i := 2) rfl (o := 1) rfl⟩ (fun hS2 => ?_)
          clear hK hSc
          (try simp only [put_rules])
          (refine walkT_ready (rs := [6]) (by kernel_rfl) (by simp) (by decide) ?_; refine AllT.cons rfl (fun K hK => ?_) AllT.nil)
          go_simp
          have hrows := Lib.hid ((S5.out.rows (i := 1) rfl).alloc (.cells #[.slice B2 c.length cap2] 37))
          have kB : (w3.alloc (.cells #[.slice B2 c.length cap2] 37)).cell? ⟨w3.heap.size, 0, none⟩ = some (.slice B2 c.length cap2) := cell_of_row _ _ _ _ _ _ (heap_alloc_new w3 _)
          have S6 := Lib.hid (S5.out.alloc (.cells #[.slice B2 c.length cap2] 37))
          refine hK.out _ _ ⟨S6.out.cell (i := 2) rfl (o := 0) rfl, S6.out.cell (i := 2) rfl (o := 1) rfl⟩ (fun hS3 => ?_)
          clear hK hS2
          (try simp only [put_rules])
          (refine walkT_done (by kernel_rfl) ?_)
          simp only [List.drop_succ_cons, List.drop_zero]
          (refine wpList_append_src rfl _ _ rfl Tryz.underlying43 hi hz0 hz1 hz2 rfl (by decide) _ ys.length _ rfl hrows.out _ 1 1 [.slice B2 c.length cap2] rfl (Src.one kB) (by simp [Value.oneCell']) (by unfold maxLen; omega) (by omega) ?_; intro vY wY hownY hgY hatY)
          have S7 := S5.out.rows_push (bal (bb _) _) hownY hgY hatY
          obtain ⟨aY, cY, rfl⟩ := own_slice hownY
          have b1 := S7.cell (i := 1) rfl (o := 1) rfl
          have q1 := S7.frozen (i := 1) rfl 1
          have hlen : ys.length + 1 = (ys ++ [c]).length := by simp
          have S8 : Hid (CS w g ca cl cc (A + 20 + 100 * (9 - (m - 1))) (wY.setCell ⟨fb, 1, none⟩ (.slice aY (ys.length + 1) cY)) [Rows Ty.int 37 (.slice aY (ys ++ [c]).length cY) (cs ++ [.slice B2 c.length cap2]) (ys ++ [c]), Box fb 45 #[.int .i64 vars, .slice aY (ys ++ [c]).length cY], Box w.heap.size 45 #[.int .i64 0, .slice none 0 0]]) := by
            unfold Hid; rw [← hlen]
            have := (S7.store (i := 1) rfl 1 (.slice aY (ys.length + 1) cY)).mono (show _ ≤ A + 20 + 100 * (9 - (m - 1)) by omega)
            rw [hlen] at this ⊢
            exact this
          have HC2 : Hid (SmallR 13 (ys ++ [c])) := fun y hy => by
            rcases List.mem_append.1 hy with hy | hy
            · exact HC.out y hy
            · obtain rfl : y = c := by simpa using hy
              exact ⟨hW.i64 (by decide), by omega⟩
          clear S5 S6 S7 hrows hownY hgY hatY kB hW HC
          replace hlen := Lib.hid hlen
          have hyl2 : (ys ++ [c]).length + (m - 1) ≤ 9 := by rw [← hlen.out]; omega
          go_wp2_with fail
          go_roundw
          case rel => exact ⟨m - 1, aY, cY, cs ++ [.slice B2 c.length cap2], ys ++ [c], by omega, rfl, hyl2, HC2, S8⟩
          case measure => simp [intOf]; omega
      · have e0 : decide ((0 : Int) < (m : Int)) = false := decide_eq_false (by omega)
        have S4 := Lib.hid (HS.out.mono (show _ ≤ A + 1000 by omega))
        have hcur := Lib.hid S4.out.cur
        clear HS
        go_wp2_with fail
        refine (cur_pick_at (lo := 0) (hi := 39) hcur.out (by omega) (by omega) (by omega) (by omega) (by omega)).mono ?_
        rintro e w5 ⟨_, ⟨x, hx0, hx1, rfl⟩, rfl, hi5, hc5⟩
        have S5 := Lib.hid (S4.out.turn hi5 hc5)
        clear S4 hcur hi5 hc5 e0
        have hx5 : x = 0 ∨ x = 1 ∨ x = 2 ∨ x = 3 ∨ 3 < x := by omega
        rcases hx5 with rfl | rfl | rfl | rfl | hx5
        · as_aux_lemma =>
          have hgl : g < w5.heap.size := S5.out.cur.lt
          have hcall := Lib.hid (cur_among (-1) 13 w5.heap.size 0 5 5 _ g ca cl cc (w5.alloc (.cells #[.int .i64 (-1), .int .i64 13, .int .i64 12, .int .i64 0, .int .i64 1] 3)) (S5.out.cur.grow (bal (bb _) _)) (by omega) (by decide) (by decide) (ints_new rfl fun j hj => by
            match j, hj with
            | 0, _ => exact ⟨_, rfl, by decide, by decide⟩
            | 1, _ => exact ⟨_, rfl, by decide, by decide⟩
            | 2, _ => exact ⟨_, rfl, by decide, by decide⟩
            | 3, _ => exact ⟨_, rfl, by decide, by decide⟩
            | 4, _ => exact ⟨_, rfl, by decide, by decide⟩
            ) (by omega))
          go_upto_region 10 with fail
          (first | go_values | go_skip | go_guarded | go_step | go_upon)
          (first | go_values | go_skip | go_guarded | go_step | go_upon)
          (first | go_values | go_skip | go_guarded | go_step | go_upon)
          (first | go_values | go_skip | go_guarded | go_step | go_upon)
          (first | go_values | go_skip | go_guarded | go_step | go_upon)
          refine bs_five _ _ _ _ _ ?_
          simp only [put_rules]
          go_wp2_with fail
          refine hcall.out.mono ?_
          rintro e w6 ⟨_, ⟨va, hva2, hva3, rfl⟩, rfl, hi6, hc6⟩
          have S6 := (S5.out.alloc _).turn hi6 hc6
          have q0 := S6.frozen (i := 1) rfl 0
          have d0 := S6.cell (i := 1) rfl (o := 0) rfl
          have S7 : Hid (CS w g ca cl cc (A + 1000 + 2 + 2) _ [Rows Ty.int 37 (.slice B ys.length cap) cs ys, Box fb 45 #[.int .i64 va, .slice B ys.length cap], Box w.heap.size 45 #[.int .i64 0, .slice none 0 0]]) := S6.store (i := 1) rfl 0 (.int .i64 va)
          clear S5 S6 hi6 hc6 hcall
          have l0 := S7.out.cell (i := 1) rfl (o := 0) rfl
          have l1 := S7.out.cell (i := 1) rfl (o := 1) rfl
          have r0 := S7.out.cell (i := 2) rfl (o := 0) rfl
          have r1 := S7.out.cell (i := 2) rfl (o := 1) rfl
          have f0 := S7.out.frozen (i := 2) rfl 0
          have f1 := S7.out.frozen (i := 2) rfl 1
          have SF := (S7.out.store (i := 2) rfl 0 (.int .i64 va)).store (i := 2) rfl 1 (.slice B ys.length cap)
          have j0 := SF.cell (i := 2) rfl (o := 0) rfl
          have j1 := SF.cell (i := 2) rfl (o := 1) rfl
          have hR := Lib.hid ((CS.front (qs := [_]) SF).mono (show _ ≤ A + 2000 by omega))
          clear SF S7
          go_wp2_with fail
          exact bodyPost_ret (v := .agg #[.int .i64 va, .slice B ys.length cap]) (by simp [results, Tryz.results57, go_sem, j0, j1]) rfl ⟨va, B, cap, cs, ys, rfl, by omega, by omega, by omega, HC.out, hR.out⟩
        · as_aux_lemma =>
          have HS := S5
          clear S5
          have l0 := HS.out.cell (i := 1) rfl (o := 0) rfl
          have l1 := HS.out.cell (i := 1) rfl (o := 1) rfl
          go_wp2_with fail
          refine wp_region_tail_lit (S := (fun w' => w'.cell? ⟨fb, 0, none⟩ = some (.int .i64 vars) ∧ w'.cell? ⟨fb, 1, none⟩ = some (.slice B ys.length cap))) 7 [false, false, false, false, false, false, false, false, false, false] (by kernel_rfl) (by kernel_rfl) (by kernel_rfl) ?_ ?_
          · exact ⟨l0, l1⟩
          intro hSc
          (refine walkT_take (i := 0) (v := ?_) rfl (by kernel_rfl) (by decide) (by kernel_rfl) (by kernel_rfl) (fun _ _ _ h => h) (Or.inl ⟨by rfl, ?_⟩) (by assumption) ?_; rotate_left; (focus (intro w hSw; (try dsimp only at hSw); go_simp; (try with_reducible rfl); done)); (try simp only [put_rules]))
          (refine walkT_take (i := 1) (v := ?_) rfl (by kernel_rfl) (by decide) (by kernel_rfl) (by kernel_rfl) (fun _ _ _ h => h) (Or.inl ⟨by rfl, ?_⟩) (by assumption) ?_; rotate_left; (focus (intro w hSw; (try dsimp only at hSw); go_simp; (try with_reducible rfl); done)); (try simp only [put_rules]))
          (refine walkT_take (i := 2) (v := ?_) rfl (by kernel_rfl) (by decide) (by kernel_rfl) (by kernel_rfl) (fun _ _ _ h => h) (Or.inl ⟨by rfl, ?_⟩) (by assumption) ?_; rotate_left; (focus (intro w hSw; (try dsimp only at hSw); go_simp; (try with_reducible rfl); done)); (try simp only [put_rules]))
          (refine walkT_take (i := 3) (v := ?_) rfl (by kernel_rfl) (by decide) (by kernel_rfl) (by kernel_rfl) (fun _ _ _ h => h) (Or.inl ⟨by rfl, ?_⟩) (by assumption) ?_; rotate_left; (focus (intro w hSw; (try dsimp only at hSw); go_simp; (try with_reducible rfl); done)); (try simp only [put_rules]))
          (refine walkT_take (i := 4) (v := ?_) rfl (by kernel_rfl) (by decide) (by kernel_rfl) (by kernel_rfl) (fun _ _ _ h => h) (Or.inl ⟨by rfl, ?_⟩) (by assumption) ?_; rotate_left; (focus (intro w hSw; (try dsimp only at hSw); go_simp; (try with_reducible rfl); done)); (try simp only [put_rules]))
          (refine walkT_ready (rs := [5]) (by kernel_rfl) (by simp) (by decide) ?_; refine AllT.cons rfl (fun K hK => ?_) AllT.nil)
          go_simp
          go_at_call 68
          have S3 := HS.out.drew
          have hcall := Lib.hid (cur_anyClause vars (by omega) _ g ca cl cc _ S3.cur (by omega))
          refine hcall.out.mono ?_
          rintro e w3 ⟨v, c, rfl, ho, hl, hW, hi3, hc3⟩
          have S4 := S3.comp (row_cs S3.cur hi3 hc3 ho)
          obtain ⟨B2, cap2, rfl⟩ := own_slice ho
          have S5 := Lib.hid (CS.own_to_row (ps := _) S4 hW)
          clear hcall S3 S4 HS l0 l1 hi3 hc3 ho
          go_wp2_with fail
          refine hK.out _ _ ⟨S5.out.cell (i := 2) rfl (o := 0) rfl, S5.out.cell (i := 2) rfl (o := 1) rfl⟩ (fun hS2 => ?_)
          clear hK hSc
          (try simp only [put_rules])
          (refine walkT_ready (rs := [6]) (by kernel_rfl) (by simp) (by decide) ?_; refine AllT.cons rfl (fun K hK => ?_) AllT.nil)
          go_simp
          have hrows := Lib.hid ((S5.out.rows (i := 1) rfl).alloc (.cells #[.slice B2 c.length cap2] 37))
          have kB : (w3.alloc (.cells #[.slice B2 c.length cap2] 37)).cell? ⟨w3.heap.size, 0, none⟩ = some (.slice B2 c.length cap2) := cell_of_row _ _ _ _ _ _ (heap_alloc_new w3 _)
          have S6 := Lib.hid (S5.out.alloc (.cells #[.slice B2 c.length cap2] 37))
          refine hK.out _ _ ⟨S6.out.cell (i := 2) rfl (o := 0) rfl, S6.out.cell (i := 2) rfl (o := 1) rfl⟩ (fun hS3 => ?_)
          clear hK hS2
          (try simp only [put_rules])
          (refine walkT_done (by kernel_rfl) ?_)
          simp only [List.drop_succ_cons, List.drop_zero]
          (refine wpList_append_src rfl _ _ rfl Tryz.underlying43 hi hz0 hz1 hz2 rfl (by decide) _ ys.length _ rfl hrows.out _ 1 1 [.slice B2 c.length cap2] rfl (Src.one kB) (by simp [Value.oneCell']) (by unfold maxLen; omega) (by omega) ?_; intro vY wY hownY hgY hatY)
          have S7 := S5.out.rows_push (bal (bb _) _) hownY hgY hatY
          obtain ⟨aY, cY, rfl⟩ := own_slice hownY
          have b1 := S7.cell (i := 1) rfl (o := 1) rfl
          have q1 := S7.frozen (i := 1) rfl 1
          have hlen : ys.length + 1 = (ys ++ [c]).length := by simp
          have S8 : Hid (CS w g ca cl cc (A + 1500) (wY.setCell ⟨fb, 1, none⟩ (.slice aY (ys.length + 1) cY)) [Rows Ty.int 37 (.slice aY (ys ++ [c]).length cY) (cs ++ [.slice B2 c.length cap2]) (ys ++ [c]), Box fb 45 #[.int .i64 vars, .slice aY (ys ++ [c]).length cY], Box w.heap.size 45 #[.int .i64 0, .slice none 0 0]]) := by
            unfold Hid; rw [← hlen]
            have := (S7.store (i := 1) rfl 1 (.slice aY (ys.length + 1) cY)).mono (show _ ≤ A + 1500 by omega)
            rw [hlen] at this ⊢
            exact this
          have HC2 : Hid (SmallR 13 (ys ++ [c])) := fun y hy => by
            rcases List.mem_append.1 hy with hy | hy
            · exact HC.out y hy
            · obtain rfl : y = c := by simpa using hy
              exact ⟨hW, by omega⟩
          clear S5 S6 S7 hrows hownY hgY hatY kB hW HC
          replace hlen := Lib.hid hlen
          rw [hlen.out]
          rw [hlen.out] at S8
          generalize ys ++ [c] = zs at *
          have hzl : zs.length ≤ 62 := by rw [← hlen.out]; omega
          have l0 := S8.out.cell (i := 1) rfl (o := 0) rfl
          have l1 := S8.out.cell (i := 1) rfl (o := 1) rfl
          have r0 := S8.out.cell (i := 2) rfl (o := 0) rfl
          have r1 := S8.out.cell (i := 2) rfl (o := 1) rfl
          have f0 := S8.out.frozen (i := 2) rfl 0
          have f1 := S8.out.frozen (i := 2) rfl 1
          have SF := (S8.out.store (i := 2) rfl 0 (.int .i64 vars)).store (i := 2) rfl 1 (.slice aY zs.length cY)
          have j0 := SF.cell (i := 2) rfl (o := 0) rfl
          have j1 := SF.cell (i := 2) rfl (o := 1) rfl
          have hR := Lib.hid ((CS.front (qs := [_]) SF).mono (show _ ≤ A + 2000 by omega))
          clear SF S8
          go_wp2_with fail
          exact bodyPost_ret (v := .agg #[.int .i64 vars, .slice aY zs.length cY]) (by simp [results, Tryz.results57, go_sem, j0, j1]) rfl ⟨vars, aY, cY, _, zs, rfl, by omega, by omega, by omega, HC2.out, hR.out⟩
        · as_aux_lemma =>
          go_wp2_with fail
          go_loopw [] (fun wr => ∃ (B : Option Addr) (cap : Nat) (cs : List Value) (ys : List (List Int)), ys.length ≤ 61 ∧ Hid (SmallR 13 ys) ∧ Hid (CS w g ca cl cc (A + 1010 + 4 * ys.length) wr [Rows Ty.int 37 (.slice B ys.length cap) cs ys, Box fb 45 #[.int .i64 vars, .slice B ys.length cap], Box w.heap.size 45 #[.int .i64 0, .slice none 0 0]])) (fun wr => 70 - lenAt1 wr fb)
          case atStart => exact ⟨B, cap, cs, ys, by omega, HC, S5.out.mono (by omega)⟩
          case round =>
            clear S5 HC hyl
            obtain ⟨B, cap, cs, ys, hyl, HC, HS⟩ := hrel
            have l1 := HS.out.cell (i := 1) rfl (o := 1) rfl
            have hm1 : Hid (lenAt1 wr fb = ys.length) := lenAt1_of l1
            go_wp2_with fail
            refine wp_region_held_lit (S := (fun w' => w'.cell? ⟨fb, 1, none⟩ = some (.slice B ys.length cap))) 7 [false, false, false, false, false, false, false] (by kernel_rfl) (by kernel_rfl) (by kernel_rfl) ?_ ?_
            · exact l1
            intro hSc
            (refine wpAnyH_take (i := 0) (v := ?_) rfl (by kernel_rfl) (by kernel_rfl) (by kernel_rfl) (fun _ _ _ h => h) (Or.inl ⟨by rfl, ?_⟩) (by assumption) ?_; rotate_left; (focus (intro w hSw; (try dsimp only at hSw); go_simp; (try with_reducible rfl); done)); (try simp only [put_rules]))
            (refine wpAnyH_take (i := 1) (v := ?_) rfl (by kernel_rfl) (by kernel_rfl) (by kernel_rfl) (fun _ _ _ h => h) (Or.inl ⟨by rfl, ?_⟩) (by assumption) ?_; rotate_left; (focus (intro w hSw; (try dsimp only at hSw); go_simp; (try with_reducible rfl); done)); (try simp only [put_rules]))
            (refine wpAnyH_take (i := 2) (v := ?_) rfl (by kernel_rfl) (by kernel_rfl) (by kernel_rfl) (fun _ _ _ h => h) (Or.inl ⟨by rfl, ?_⟩) (by assumption) ?_; rotate_left; (focus (intro w hSw; (try dsimp only at hSw); go_simp; (try with_reducible rfl); done)); (try simp only [put_rules]))
            (refine wpAnyH_take (i := 3) (v := ?_) rfl (by kernel_rfl) (by kernel_rfl) (by kernel_rfl) (fun _ _ _ h => h) (Or.inl ⟨by rfl, ?_⟩) (by assumption) ?_; rotate_left; (focus (intro w hSw; (try dsimp only at hSw); go_simp; (try with_reducible rfl); done)); (try simp only [put_rules]))
            (refine wpAnyH_ready (rs := [4]) (by kernel_rfl) (by simp) ?_; refine AllReadyH.cons rfl (fun K hK => ?_) AllReadyH.nil)
            go_simp
            go_at_call 87
            have S3 := HS.out.drew
            have hcall := Lib.hid (cur_pick_at (lo := 0) (hi := 1) (n := 2) S3.cur (by omega) (by omega) (by omega) (by omega) (by omega))
            refine hcall.out.mono ?_
            rintro e w3 ⟨_, ⟨x, hx0, hx1, rfl⟩, rfl, hi3, hc3⟩
            have S4 := Lib.hid (S3.turn hi3 hc3)
            clear hcall S3 HS hi3 hc3
            have hxw : IntKind.i64.wrap (60 + x) = 60 + x := IntWalk.i64_in _ (by omega)
            have m1 := S4.out.cell (i := 1) rfl (o := 1) rfl
            go_wp2_with fail
            refine hK.out _ _ m1 (fun hS2 => ?_)
            clear l1
            clear hK hSc
            (try simp only [put_rules])
            (refine wpAnyH_take (i := 5) (v := ?_) rfl (by kernel_rfl) (by kernel_rfl) (by kernel_rfl) (fun _ _ _ h => h) (Or.inl ⟨by rfl, ?_⟩) (by assumption) ?_; rotate_left; (focus (intro w hSw; (try dsimp only at hSw); go_simp; (try with_reducible rfl); done)); (try simp only [put_rules]))
            by_cases hlt : (ys.length : Int) < 60 + x
            · have d0 : decide ((ys.length : Int) < 60 + x) = true := decide_eq_true hlt
              (refine wpAnyH_take (i := 6) (v := ?_) rfl (by kernel_rfl) (by kernel_rfl) (by kernel_rfl) (fun _ _ _ h => h) (Or.inl ⟨by rfl, ?_⟩) (by assumption) ?_; rotate_left; (focus (intro w hSw; (try dsimp only at hSw); go_simp; (try with_reducible rfl); done)); (try simp only [put_rules]))
              (refine wpAnyH_done (by kernel_rfl) ?_ _)
              have hp1 : ∀ x ∈ ([1] : List Int), I64 x := fun x hx => by
                obtain rfl : x = 1 := by simpa using hx
                unfold I64; omega
              have S5 := Lib.hid (CS.own_to_row (c := [1]) (S4.out.own_one (.int .i64 1) 3) hp1)
              obtain ⟨w4, hw4⟩ : ∃ w4, w3.alloc (.cells #[.int .i64 1] 3) = w4 := ⟨_, rfl⟩
              have hrows := (S5.out.rows (i := 1) rfl).alloc (.cells #[.slice (some ⟨w3.heap.size, 0, none⟩) 1 1] 37)
              have kB : ((w3.alloc (.cells #[.int .i64 1] 3)).alloc (.cells #[.slice (some ⟨w3.heap.size, 0, none⟩) 1 1] 37)).cell? ⟨w3.heap.size + 1, 0, none⟩ = some (.slice (some ⟨w3.heap.size, 0, none⟩) 1 1) := by
                have := cell_of_row _ _ 0 _ _ _ (heap_alloc_new (w3.alloc (.cells #[.int .i64 1] 3)) (.cells #[.slice (some ⟨w3.heap.size, 0, none⟩) 1 1] 37))
                rw [World.size_alloc] at this
                exact this
              replace hrows := Lib.hid hrows
              clear S4 hp1 hw4 w4
              go_wp2_with (at_builtin; refine wpList_append_src rfl _ _ rfl Tryz.underlying43 hi hz0 hz1 hz2 rfl (by decide) _ ys.length _ rfl hrows.out _ 1 1 [.slice (some ⟨w3.heap.size, 0, none⟩) 1 1] rfl (Src.one kB) (by simp [Value.oneCell']) ?c3 ?c4 ?_)
              case c3 => unfold maxLen; omega
              case c4 => omega
              intro vY wY hownY hgY hatY
              have S6 := S5.out.rows_push (bal (bb _) _) hownY hgY (by simpa using hatY)
              obtain ⟨aY, cY, rfl⟩ := own_slice hownY
              have b1 := S6.cell (i := 1) rfl (o := 1) rfl
              have q1 := S6.frozen (i := 1) rfl 1
              have hlen : ys.length + 1 = (ys ++ [[1]]).length := by simp
              have S8 : Hid (CS w g ca cl cc (A + 1010 + 4 * (ys.length + 1)) (wY.setCell ⟨fb, 1, none⟩ (.slice aY (ys.length + 1) cY)) [Rows Ty.int 37 (.slice aY (ys ++ [[1]]).length cY) (cs ++ [.slice (some ⟨w3.heap.size, 0, none⟩) 1 1]) (ys ++ [[1]]), Box fb 45 #[.int .i64 vars, .slice aY (ys ++ [[1]]).length cY], Box w.heap.size 45 #[.int .i64 0, .slice none 0 0]]) := by
                unfold Hid; rw [← hlen]
                have := (S6.store (i := 1) rfl 1 (.slice aY (ys.length + 1) cY)).mono (show _ ≤ A + 1010 + 4 * (ys.length + 1) by omega)
                rw [hlen] at this ⊢
                exact this
              have HC2 : Hid (SmallR 13 (ys ++ [[1]])) := fun y hy => by
                rcases List.mem_append.1 hy with hy | hy
                · exact HC.out y hy
                · obtain rfl : y = [1] := by simpa using hy
                  exact ⟨fun x hx => (by obtain rfl : x = 1 := by simpa using hx
                                         unfold I64; omega), by simp⟩
              have hm2 : Hid (lenAt1 (wY.setCell ⟨fb, 1, none⟩ (.slice aY (ys.length + 1) cY)) fb = ys.length + 1) := by
                have := lenAt1_of (S8.out.cell (i := 1) rfl (o := 1) rfl)
                unfold Hid; rw [this, hlen]
              clear S5 S6 hrows hownY hgY hatY kB HC
              rw [hlen] at S8
              replace hlen := Lib.hid hlen
              go_wp2_with fail
              go_roundw
              case rel => exact ⟨aY, cY, cs ++ [.slice (some ⟨w3.heap.size, 0, none⟩) 1 1], ys ++ [[1]], by rw [← hlen.out]; omega, HC2, by rw [hlen.out]; exact S8⟩
              case measure => rw [hm1.out, hm2.out]; omega
            · have d0 : decide ((ys.length : Int) < 60 + x) = false := decide_eq_false hlt
              (refine wpAnyH_take (i := 6) (v := ?_) rfl (by kernel_rfl) (by kernel_rfl) (by kernel_rfl) (fun _ _ _ h => h) (Or.inl ⟨by rfl, ?_⟩) (by assumption) ?_; rotate_left; (focus (intro w hSw; (try dsimp only at hSw); go_simp; (try with_reducible rfl); done)); (try simp only [put_rules]))
              (refine wpAnyH_done (by kernel_rfl) ?_ _)
              have l0 := S4.out.cell (i := 1) rfl (o := 0) rfl
              have l1 := S4.out.cell (i := 1) rfl (o := 1) rfl
              have r0 := S4.out.cell (i := 2) rfl (o := 0) rfl
              have r1 := S4.out.cell (i := 2) rfl (o := 1) rfl
              have f0 := S4.out.frozen (i := 2) rfl 0
              have f1 := S4.out.frozen (i := 2) rfl 1
              have SF := (S4.out.store (i := 2) rfl 0 (.int .i64 vars)).store (i := 2) rfl 1 (.slice B ys.length cap)
              have j0 := SF.cell (i := 2) rfl (o := 0) rfl
              have j1 := SF.cell (i := 2) rfl (o := 1) rfl
              have hR := Lib.hid ((CS.front (qs := [_]) SF).mono (show _ ≤ A + 2000 by omega))
              clear SF S4
              go_wp2_with fail
              exact bodyPost_ret (v := .agg #[.int .i64 vars, .slice B ys.length cap]) (by simp [results, Tryz.results57, go_sem, j0, j1]) rfl ⟨vars, B, cap, cs, ys, rfl, by omega, by omega, by omega, HC.out, hR.out⟩
        · as_aux_lemma =>
          have HS := S5
          clear S5
          have l0 := HS.out.cell (i := 1) rfl (o := 0) rfl
          have l1 := HS.out.cell (i := 1) rfl (o := 1) rfl
          go_wp2_with fail
          refine wp_region_tail_lit (S := (fun w' => w'.cell? ⟨fb, 0, none⟩ = some (.int .i64 vars) ∧ w'.cell? ⟨fb, 1, none⟩ = some (.slice B ys.length cap))) 8 [false, false, false, false, false, false, false, false, false, false, false] (by kernel_rfl) (by kernel_rfl) (by kernel_rfl) ?_ ?_
          · exact ⟨l0, l1⟩
          intro hSc
          (refine walkT_take (i := 0) (v := ?_) rfl (by kernel_rfl) (by decide) (by kernel_rfl) (by kernel_rfl) (fun _ _ _ h => h) (Or.inl ⟨by rfl, ?_⟩) (by assumption) ?_; rotate_left; (focus (intro w hSw; (try dsimp only at hSw); go_simp; (try with_reducible rfl); done)); (try simp only [put_rules]))
          (refine walkT_take (i := 1) (v := ?_) rfl (by kernel_rfl) (by decide) (by kernel_rfl) (by kernel_rfl) (fun _ _ _ h => h) (Or.inl ⟨by rfl, ?_⟩) (by assumption) ?_; rotate_left; (focus (intro w hSw; (try dsimp only at hSw); go_simp; (try with_reducible rfl); done)); (try simp only [put_rules]))
          (refine walkT_take (i := 2) (v := ?_) rfl (by kernel_rfl) (by decide) (by kernel_rfl) (by kernel_rfl) (fun _ _ _ h => h) (Or.inl ⟨by rfl, ?_⟩) (by assumption) ?_; rotate_left; (focus (intro w hSw; (try dsimp only at hSw); go_simp; (try with_reducible rfl); done)); (try simp only [put_rules]))
          (refine walkT_take (i := 3) (v := ?_) rfl (by kernel_rfl) (by decide) (by kernel_rfl) (by kernel_rfl) (fun _ _ _ h => h) (Or.inl ⟨by rfl, ?_⟩) (by assumption) ?_; rotate_left; (focus (intro w hSw; (try dsimp only at hSw); go_simp; (try with_reducible rfl); done)); (try simp only [put_rules]))
          (refine walkT_take (i := 4) (v := ?_) rfl (by kernel_rfl) (by decide) (by kernel_rfl) (by kernel_rfl) (fun _ _ _ h => h) (Or.inl ⟨by rfl, ?_⟩) (by assumption) ?_; rotate_left; (focus (intro w hSw; (try dsimp only at hSw); go_simp; (try with_reducible rfl); done)); (try simp only [put_rules]))
          (refine walkT_ready (rs := [5, 6]) (by kernel_rfl) (by simp) (by decide) ?_; refine AllT.cons rfl (fun K hK => ?_) (AllT.cons rfl (fun K hK => ?_) AllT.nil))
          · as_aux_lemma =>
              go_simp
              go_at_call 108
              have S3 := HS.out.drew
              have hcall := Lib.hid (cur_clause vars (by omega) _ g ca cl cc _ S3.cur (by omega))
              refine hcall.out.mono ?_
              rintro e w3 ⟨v, c, rfl, ho, hl, hW, hi3, hc3⟩
              have S4 := S3.comp (row_cs S3.cur hi3 hc3 ho)
              obtain ⟨B2, cap2, rfl⟩ := own_slice ho
              have S5 := Lib.hid (CS.own_to_row (ps := _) S4 (hW.i64 (by decide)))
              clear hcall S3 S4 HS l0 l1 hi3 hc3 ho
              go_wp2_with fail
              refine hK.out _ _ ⟨S5.out.cell (i := 2) rfl (o := 0) rfl, S5.out.cell (i := 2) rfl (o := 1) rfl⟩ (fun hS2 => ?_)
              clear hK hSc
              (try simp only [put_rules])
              (refine walkT_ready (rs := [6]) (by kernel_rfl) (by simp) (by decide) ?_; refine AllT.cons rfl (fun K hK => ?_) AllT.nil)
              go_simp
              have S6 := CS.own_to_row (c := []) (S5.out.own_made 3 1) (fun x hx => by simp at hx)
              have S7 := Lib.hid (CS.pend S6.swap)
              refine hK.out _ _ ⟨S7.out.cell (i := 2) rfl (o := 0) rfl, S7.out.cell (i := 2) rfl (o := 1) rfl⟩ (fun hS3 => ?_)
              clear hK hS2 S5 S6
              (try simp only [put_rules])
              (refine walkT_ready (rs := [7]) (by kernel_rfl) (by simp) (by decide) ?_; refine AllT.cons rfl (fun K hK => ?_) AllT.nil)
              go_simp
              obtain ⟨w4, hw4⟩ : ∃ w4, w3.alloc (.cells #[] 3) = w4 := ⟨_, rfl⟩
              have hsz4 : w3.heap.size + 1 = w4.heap.size := by rw [← hw4, World.size_alloc]
              rw [hw4] at S7 ⊢
              have hrows := Lib.hid ((S7.out.rows (i := 1) rfl).alloc (.cells #[.slice B2 c.length cap2, .slice (some ⟨w3.heap.size, 0, none⟩) 0 0] 37))
              have kB : (w4.alloc (.cells #[.slice B2 c.length cap2, .slice (some ⟨w3.heap.size, 0, none⟩) 0 0] 37)).cell? ⟨w4.heap.size, 0, none⟩ = some (.slice B2 c.length cap2) := cell_of_row _ _ _ _ _ _ (heap_alloc_new w4 _)
              have kC : (w4.alloc (.cells #[.slice B2 c.length cap2, .slice (some ⟨w3.heap.size, 0, none⟩) 0 0] 37)).cell? ⟨w4.heap.size, 1, none⟩ = some (.slice (some ⟨w3.heap.size, 0, none⟩) 0 0) := cell_of_row _ _ _ _ _ _ (heap_alloc_new w4 _)
              rw [← hsz4] at kB kC
              have S6 := Lib.hid (S7.out.alloc (.cells #[.slice B2 c.length cap2, .slice (some ⟨w3.heap.size, 0, none⟩) 0 0] 37))
              refine hK.out _ _ ⟨S6.out.cell (i := 2) rfl (o := 0) rfl, S6.out.cell (i := 2) rfl (o := 1) rfl⟩ (fun hS4 => ?_)
              clear hK hS3
              (try simp only [put_rules])
              (refine walkT_done (by kernel_rfl) ?_)
              simp only [List.drop_succ_cons, List.drop_zero]
              (refine wpList_append_src rfl _ _ rfl Tryz.underlying43 hi hz0 hz1 hz2 rfl (by decide) _ ys.length _ rfl hrows.out _ 2 2 [.slice B2 c.length cap2, .slice (some ⟨w3.heap.size, 0, none⟩) 0 0] rfl (Src.two kB kC) (by simp [Value.oneCell']) (by unfold maxLen; omega) (by omega) ?_; intro vY wY hownY hgY hatY)
              have S9 := S7.out.rows_append (bal (bb _) _) hownY hgY hatY
              obtain ⟨aY, cY, rfl⟩ := own_slice hownY
              have b1 := S9.cell (i := 1) rfl (o := 1) rfl
              have q1 := S9.frozen (i := 1) rfl 1
              have hlen : ys.length + 2 = (ys ++ [c, []]).length := by simp
              have S8 : Hid (CS w g ca cl cc (A + 1500) (wY.setCell ⟨fb, 1, none⟩ (.slice aY (ys.length + 2) cY)) [Rows Ty.int 37 (.slice aY (ys ++ [c, []]).length cY) (cs ++ [.slice B2 c.length cap2, .slice (some ⟨w3.heap.size, 0, none⟩) 0 0]) (ys ++ [c, []]), Box fb 45 #[.int .i64 vars, .slice aY (ys ++ [c, []]).length cY], Box w.heap.size 45 #[.int .i64 0, .slice none 0 0]]) := by
                unfold Hid; rw [← hlen]
                have := (S9.store (i := 1) rfl 1 (.slice aY (ys.length + 2) cY)).mono (show _ ≤ A + 1500 by omega)
                rw [hlen] at this ⊢
                exact this
              have HC2 : Hid (SmallR 13 (ys ++ [c, []])) := fun y hy => by
                rcases List.mem_append.1 hy with hy | hy
                · exact HC.out y hy
                · rcases List.mem_cons.1 hy with rfl | hy
                  · exact ⟨hW.i64 (by decide), by omega⟩
                  · obtain rfl : y = [] := by simpa using hy
                    exact ⟨by simp, by simp⟩
              clear S6 S7 S9 hrows hownY hgY hatY kB kC hW HC
              replace hlen := Lib.hid hlen
              rw [hlen.out]
              rw [hlen.out] at S8
              generalize ys ++ [c, []] = zs at *
              have hzl : zs.length ≤ 62 := by rw [← hlen.out]; omega
              have l0 := S8.out.cell (i := 1) rfl (o := 0) rfl
              have l1 := S8.out.cell (i := 1) rfl (o := 1) rfl
              have r0 := S8.out.cell (i := 2) rfl (o := 0) rfl
              have r1 := S8.out.cell (i := 2) rfl (o := 1) rfl
              have f0 := S8.out.frozen (i := 2) rfl 0
              have f1 := S8.out.frozen (i := 2) rfl 1
              have SF := (S8.out.store (i := 2) rfl 0 (.int .i64 vars)).store (i := 2) rfl 1 (.slice aY zs.length cY)
              have j0 := SF.cell (i := 2) rfl (o := 0) rfl
              have j1 := SF.cell (i := 2) rfl (o := 1) rfl
              have hR := Lib.hid ((CS.front (qs := [_]) SF).mono (show _ ≤ A + 2000 by omega))
              clear SF S8
              go_wp2_with fail
              exact bodyPost_ret (v := .agg #[.int .i64 vars, .slice aY zs.length cY]) (by simp [results, Tryz.results57, go_sem, j0, j1]) rfl ⟨vars, aY, cY, _, zs, rfl, by omega, by omega, by omega, HC2.out, hR.out⟩
          · as_aux_lemma =>
              go_simp
              have S6 := CS.own_to_row (c := []) (HS.out.drew.own_made 3 1) (fun x hx => by simp at hx)
              (repeat (first | simp only [drew_size] at S6 | simp only [World.size_setCell] at S6 | simp only [World.size_alloc] at S6))
              replace S6 := Lib.hid S6
              refine hK.out _ _ ⟨S6.out.cell (i := 2) rfl (o := 0) rfl, S6.out.cell (i := 2) rfl (o := 1) rfl⟩ (fun hS2 => ?_)
              clear hK hSc HS l0 l1
              (try simp only [put_rules])
              (refine walkT_ready (rs := [5]) (by kernel_rfl) (by simp) (by decide) ?_; refine AllT.cons rfl (fun K hK => ?_) AllT.nil)
              go_simp
              go_at_call 108
              have hcall := Lib.hid (cur_clause vars (by omega) _ g ca cl cc _ S6.out.cur (by omega))
              refine hcall.out.mono ?_
              rintro e w4 ⟨v, c, rfl, ho, hl, hW, hi3, hc3⟩
              have S4 := S6.out.comp (row_cs S6.out.cur hi3 hc3 ho)
              obtain ⟨B2, cap2, rfl⟩ := own_slice ho
              have S7 := Lib.hid (CS.pend (CS.own_to_row (ps := _) S4 (hW.i64 (by decide))))
              clear hcall S4 S6 hi3 hc3 ho
              go_wp2_with fail
              refine hK.out _ _ ⟨S7.out.cell (i := 2) rfl (o := 0) rfl, S7.out.cell (i := 2) rfl (o := 1) rfl⟩ (fun hS3 => ?_)
              clear hK hS2
              (try simp only [put_rules])
              (refine walkT_ready (rs := [7]) (by kernel_rfl) (by simp) (by decide) ?_; refine AllT.cons rfl (fun K hK => ?_) AllT.nil)
              go_simp
              have hrows := Lib.hid ((S7.out.rows (i := 1) rfl).alloc (.cells #[.slice B2 c.length cap2, .slice (some ⟨w5.heap.size, 0, none⟩) 0 0] 37))
              have kB : (w4.alloc (.cells #[.slice B2 c.length cap2, .slice (some ⟨w5.heap.size, 0, none⟩) 0 0] 37)).cell? ⟨w4.heap.size, 0, none⟩ = some (.slice B2 c.length cap2) := cell_of_row _ _ _ _ _ _ (heap_alloc_new w4 _)
              have kC : (w4.alloc (.cells #[.slice B2 c.length cap2, .slice (some ⟨w5.heap.size, 0, none⟩) 0 0] 37)).cell? ⟨w4.heap.size, 1, none⟩ = some (.slice (some ⟨w5.heap.size, 0, none⟩) 0 0) := cell_of_row _ _ _ _ _ _ (heap_alloc_new w4 _)
              have S6 := Lib.hid (S7.out.alloc (.cells #[.slice B2 c.length cap2, .slice (some ⟨w5.heap.size, 0, none⟩) 0 0] 37))
              refine hK.out _ _ ⟨S6.out.cell (i := 2) rfl (o := 0) rfl, S6.out.cell (i := 2) rfl (o := 1) rfl⟩ (fun hS4 => ?_)
              clear hK hS3
              (try simp only [put_rules])
              (refine walkT_done (by kernel_rfl) ?_)
              simp only [List.drop_succ_cons, List.drop_zero]
              (refine wpList_append_src rfl _ _ rfl Tryz.underlying43 hi hz0 hz1 hz2 rfl (by decide) _ ys.length _ rfl hrows.out _ 2 2 [.slice B2 c.length cap2, .slice (some ⟨w5.heap.size, 0, none⟩) 0 0] rfl (Src.two kB kC) (by simp [Value.oneCell']) (by unfold maxLen; omega) (by omega) ?_; intro vY wY hownY hgY hatY)
              have S9 := S7.out.rows_append (bal (bb _) _) hownY hgY hatY
              obtain ⟨aY, cY, rfl⟩ := own_slice hownY
              have b1 := S9.cell (i := 1) rfl (o := 1) rfl
              have q1 := S9.frozen (i := 1) rfl 1
              have hlen : ys.length + 2 = (ys ++ [c, []]).length := by simp
              have S8 : Hid (CS w g ca cl cc (A + 1500) (wY.setCell ⟨fb, 1, none⟩ (.slice aY (ys.length + 2) cY)) [Rows Ty.int 37 (.slice aY (ys ++ [c, []]).length cY) (cs ++ [.slice B2 c.length cap2, .slice (some ⟨w5.heap.size, 0, none⟩) 0 0]) (ys ++ [c, []]), Box fb 45 #[.int .i64 vars, .slice aY (ys ++ [c, []]).length cY], Box w.heap.size 45 #[.int .i64 0, .slice none 0 0]]) := by
                unfold Hid; rw [← hlen]
                have := (S9.store (i := 1) rfl 1 (.slice aY (ys.length + 2) cY)).mono (show _ ≤ A + 1500 by omega)
                rw [hlen] at this ⊢
                exact this
              have HC2 : Hid (SmallR 13 (ys ++ [c, []])) := fun y hy => by
                rcases List.mem_append.1 hy with hy | hy
                · exact HC.out y hy
                · rcases List.mem_cons.1 hy with rfl | hy
                  · exact ⟨hW.i64 (by decide), by omega⟩
                  · obtain rfl : y = [] := by simpa using hy
                    exact ⟨by simp, by simp⟩
              clear S6 S7 S9 hrows hownY hgY hatY kB kC hW HC
              replace hlen := Lib.hid hlen
              rw [hlen.out]
              rw [hlen.out] at S8
              generalize ys ++ [c, []] = zs at *
              have hzl : zs.length ≤ 62 := by rw [← hlen.out]; omega
              have l0 := S8.out.cell (i := 1) rfl (o := 0) rfl
              have l1 := S8.out.cell (i := 1) rfl (o := 1) rfl
              have r0 := S8.out.cell (i := 2) rfl (o := 0) rfl
              have r1 := S8.out.cell (i := 2) rfl (o := 1) rfl
              have f0 := S8.out.frozen (i := 2) rfl 0
              have f1 := S8.out.frozen (i := 2) rfl 1
              have SF := (S8.out.store (i := 2) rfl 0 (.int .i64 vars)).store (i := 2) rfl 1 (.slice aY zs.length cY)
              have j0 := SF.cell (i := 2) rfl (o := 0) rfl
              have j1 := SF.cell (i := 2) rfl (o := 1) rfl
              have hR := Lib.hid ((CS.front (qs := [_]) SF).mono (show _ ≤ A + 2000 by omega))
              clear SF S8
              go_wp2_with fail
              exact bodyPost_ret (v := .agg #[.int .i64 vars, .slice aY zs.length cY]) (by simp [results, Tryz.results57, go_sem, j0, j1]) rfl ⟨vars, aY, cY, _, zs, rfl, by omega, by omega, by omega, HC2.out, hR.out⟩
        · as_aux_lemma =>
          have l0 := S5.out.cell (i := 1) rfl (o := 0) rfl
          have l1 := S5.out.cell (i := 1) rfl (o := 1) rfl
          have r0 := S5.out.cell (i := 2) rfl (o := 0) rfl
          have r1 := S5.out.cell (i := 2) rfl (o := 1) rfl
          have f0 := S5.out.frozen (i := 2) rfl 0
          have f1 := S5.out.frozen (i := 2) rfl 1
          have SF := (S5.out.store (i := 2) rfl 0 (.int .i64 vars)).store (i := 2) rfl 1 (.slice B ys.length cap)
          have j0 := SF.cell (i := 2) rfl (o := 0) rfl
          have j1 := SF.cell (i := 2) rfl (o := 1) rfl
          have hR := Lib.hid ((CS.front (qs := [_]) SF).mono (show _ ≤ A + 2000 by omega))
          clear SF S5
          go_wp2_with fail
          exact bodyPost_ret (v := .agg #[.int .i64 vars, .slice B ys.length cap]) (by simp [results, Tryz.results57, go_sem, j0, j1]) rfl ⟨vars, B, cap, cs, ys, rfl, by omega, by omega, by omega, HC.out, hR.out⟩
end Go.Proofs.YtbemodacpimiiaaGreat

/- Contracts: the laws' own comparisons of numbers. -/
namespace Go.Proofs.YtbemodacpimiiaaGreat
open Go.RowKit

/- left out: the seat has no laws.rBig -/

/- left out: the seat has no laws.rInts -/

set_option maxRecDepth 100000 in
set_option maxHeartbeats 4000000 in
theorem vInts_same (A A' : Option Addr) (c c' : Nat) (ns : List Int) (w : World) (hx : IntsAt w A ns) (hy : IntsAt w A' ns) (hl : ns.length ≤ 1000000) :
    Calls Tryz.prog 17 #[.slice A ns.length c, .slice A' ns.length c'] w fun e w' => e = .returned (.bool true) ∧ Below w.heap.size w w' := by
  have hN := Lib.hid hx
  have hM := Lib.hid hy
  clear hx hy
  go_enter Tryz.func17, Tryz.ntmps17
  go_wp2_with fail
  go_loopw [5] (fun i wr => ∃ k : Nat, k ≤ ns.length ∧ i = .int .i64 k ∧ Hid (Below w.heap.size w wr)) (fun i _ => ns.length - (intOf i).toNat)
  case atStart => exact ⟨0, Nat.zero_le _, rfl, bb _⟩
  case round =>
    obtain ⟨k, hk, rfl, HS⟩ := hrel
    by_cases hlt : k < ns.length
    · obtain ⟨b, off, rfl, m0⟩ := (hN.out.grow HS.out).at_ k hlt
      obtain ⟨b', off', rfl, p0⟩ := (hM.out.grow HS.out).at_ k hlt
      have k0 := cell_regrown m0
      have q0 := cell_regrown p0
      generalize ns[k] = v at *
      clear m0 p0
      go_wp2_with fail
      refine wp_region_quiet_below (by kernel_rfl) (by kernel_rfl) ?_
      repeat (any_goals (go_big_quiet_step (fail)))
      refine wpQuiet_nil ?_
      rintro w3 ⟨p, rfl⟩
      have HS4 := Lib.hid (btr HS.out (below_regrown _ p.d p.os))
      clear HS k0 q0
      go_wp2_with fail
      go_roundw
      case rel => exact ⟨k + 1, by omega, by go_num, HS4⟩
      case measure => simp [intOf]; omega
    · obtain rfl : k = ns.length := by omega
      have hB := HS.out
      go_wp2_with fail
      go_ret
      exact ⟨rfl, hB⟩
end Go.Proofs.YtbemodacpimiiaaGreat

/- Contracts: drawn Cnfs as inputs of laws. -/
namespace Go.Proofs.YtbemodacpimiiaaGreat
open Go.RowKit

section
variable {w0 w w' : World} {ps qs : List Asn} {A A' g cl cc : Nat} {ca : Option Addr}
theorem Sp.cur_laid (h : Sp w0 w ps) (ca : Option Addr) (cl cc : Nat) : Sp w0 (w.alloc (.cells #[.slice ca cl cc, .int .i64 0, .int .u64 0] 81)) (CurA 0 w.heap.size ca cl cc :: ps) :=
  h.new (bal (bb w) _) (F := [w.heap.size]) ⟨rfl, 0, 0, heap_alloc_new w _, Nat.le_refl 0, Int.le_refl 0, by omega⟩ (by simp)
theorem Sp.cs_call (h : Sp w0 w (CurA A g ca cl cc :: ps)) (k : CS w g ca cl cc A' w' qs) (hc : CodeOk w0 ca cl) (hs : cl ≤ 65536) : Sp w0 w' (qs ++ CurA A' g ca cl cc :: ps) := by
  have hb := ((h.cur (A' := A') (i := 0) rfl hc hs).2 w' k.cur k.chg).below
  obtain ⟨h1, F, ⟨F1, F2, rfl, hd, ⟨rfl, -⟩, h5⟩, h3⟩ := h
  have hg : g < w.heap.size := by
    obtain ⟨A0, h0⟩ := k.1
    exact h0.lt
  obtain ⟨k0, k1, k2, G, k3, k4⟩ := k
  have hk := sep_keep h5 fun b hm => k2.block b (sep_lt h5 b hm) fun hb => by
    obtain rfl : b = g := by simpa using hb
    exact hd b (by simp) hm
  refine ⟨hb, G ++ ([g] ++ F2), sep_append k3 ⟨[g], F2, rfl, hd, ⟨rfl, k1.ok⟩, hk⟩ (fun b hb hb2 => ?_), fun b hb => ?_⟩
  · have := k4 b hb
    rcases List.mem_append.1 hb2 with h' | h'
    · obtain rfl : b = g := by simpa using h'
      omega
    · have := sep_lt h5 b h'; omega
  · rcases List.mem_append.1 hb with hb | hb
    · have := k4 b hb; have := h1.size; omega
    · exact h3 b hb
end
/-- A drawn Cnf of its own. -/
def CnfD (w : World) (e : Ending) (w' : World) : Prop := ∃ (vars : Int) (B : Option Addr) (cap : Nat) (cs : List Value) (xss : List (List Int)), e = .returned (.agg #[.int .i64 vars, .slice B xss.length cap]) ∧ -1 ≤ vars ∧ vars ≤ 13 ∧ xss.length ≤ 62 ∧ SmallR 13 xss ∧
  Sp w w' [Rows Ty.int 37 (.slice B xss.length cap) cs xss]

/- left out: the seat has no spec.DrawIsCnf -/

/- left out: the seat has no spec.DrawBackboneOf -/
end Go.Proofs.YtbemodacpimiiaaGreat

/- Contracts: the first bits of a diagram in the reference; drawn diagrams and clauses. Printed by gen_dug.py. -/
namespace Go.Proofs.YtbemodacpimiiaaGreat
open Go.RowKit

theorem revK_true {n c k : Nat} (h : c.testBit (n - (k + 1)) = true) : revK n c (k + 1) = revK n c k + 2 ^ k := by rw [revK, if_pos h]
theorem revK_false {n c k : Nat} (h : c.testBit (n - (k + 1)) = false) : revK n c (k + 1) = revK n c k := by rw [revK, h, if_neg (by simp)]

set_option maxRecDepth 100000 in
set_option maxHeartbeats 8000000 in
theorem specFirst_any (vars r : Int) (A : Option Addr) (c : Nat) (ns : List Nd) (w : World) (hx : NdAt w A ns) (hl : ns.length ≤ 1000000) :
    Calls Tryz.prog 16 #[.int .i64 vars, dgV r (.slice A ns.length c)] w (FrTold w (outFB (goodD vars r ns) vars (valD r ns)) (outF (goodD vars r ns) vars (valD r ns))) := by
  have S0 := (Sp.start w).alloc_box #[.int .i64 r, .slice A ns.length c] 26
  have hcall := Lib.hid (l26Good_any vars r A c ns _ (hx.grow S0.below) hl)
  replace hx := Lib.hid hx
  replace S0 := Lib.hid S0
  cases h1 : goodD vars r ns
  · rw [h1] at hcall
    go_enter Tryz.func16, Tryz.ntmps16
    go_wp2_with fail
    refine hcall.out.mono ?_
    rintro e w1 ⟨rfl, hb1⟩
    have hB := bal (S0.out.grow hb1).below (.cells #[] 3)
    clear S0 hcall hb1
    go_wp2_with fail
    go_ret2
    exact ⟨_, 0, rfl, .nil _ _, hB⟩
  have g1 := good_parts h1
  rw [h1] at hcall
  obtain ⟨n, rfl⟩ := Int.eq_ofNat_of_zero_le g1.1.1
  have hn : n ≤ 6 := by omega
  have hval := Lib.hid (fun W hb => l26Values_any n hn r A c ns W (hx.out.grow hb) hl g1.2.2.2 g1.2.2.1.1 g1.2.2.1.2)
  have hF : Hid (outF true (n : Int) (valD r ns) = firstL n (valD r ns)) := rfl
  have hFB : Hid (outFB true (n : Int) (valD r ns) = firstB n (valD r ns)) := by unfold Hid outFB; rw [Int.toNat_natCast, Bool.true_and]
  rw [hF.out, hFB.out]
  clear g1 hx hF hFB
  generalize valD r ns = f at *
  obtain ⟨N, hN⟩ : ∃ N, 2 ^ n = N := ⟨_, rfl⟩
  have hN64 : N ≤ 64 := by rw [← hN]; exact (pow_small hn).2
  rw [hN] at hval
  replace hN := Lib.hid hN
  go_enter Tryz.func16, Tryz.ntmps16
  go_wp2_with fail
  refine hcall.out.mono ?_
  rintro e w1 ⟨rfl, hb1⟩
  have S1 := S0.out.grow hb1
  have d0 := S1.cell (i := 0) rfl (o := 0) rfl
  have d1 := S1.cell (i := 0) rfl (o := 1) rfl
  have hval2 := Lib.hid (hval.out _ S1.below)
  replace S1 := Lib.hid S1
  clear S0 hcall hb1 hval
  go_wp2_with fail
  refine hval2.out.mono ?_
  rintro e w2 ⟨A3, c3, rfl, T3⟩
  obtain ⟨A3', c3', e3, hb3⟩ := bl_own (T3.own (i := 0) rfl)
  cases e3
  have hB := Lib.hid (S1.out.grow T3.below).below
  replace hb3 := Lib.hid hb3
  clear S1 hval2 T3 d0 d1
  go_wp2_with fail
  go_loopw [7] (fun i wr => ∃ k : Nat, k ≤ N ∧ i = .int .i64 (k : Int) ∧ Hid (∀ e, e < k → f (revB n e) = false) ∧ Hid (wr = w2)) (fun i _ => N - (intOf i).toNat)
  case atStart => exact ⟨0, Nat.zero_le _, rfl, Lib.hid (fun e he => absurd he (by omega)), rfl⟩
  case round =>
    obtain ⟨k, hk, rfl, hno, hw⟩ := hrel
    by_cases hlt : k < N
    · have hki : (k : Int) < N := by omega
      have hk62 : k < 2 ^ 62 := by omega
      go_wp2_with fail
      go_loopw [8, 9] (fun bv i wq => ∃ (u : Nat) (z : Int), u ≤ n ∧ i = .int .i64 z ∧ Hid (z = (u : Int) + 1) ∧ bv = .int .i64 ((revK n k u : Nat) : Int) ∧ Hid (wq = wr)) (fun _ i _ => n + 1 - (intOf i).toNat)
      case atStart => exact ⟨0, 1, Nat.zero_le _, rfl, rfl, rfl, rfl⟩
      case round =>
        rename World => wq
        obtain ⟨u, z, hu, rfl, hz, rfl, hwq⟩ := hrel
        have hz' := hz.out
        by_cases hlu : u < n
        · have hle : z ≤ (n : Int) := by omega
          obtain ⟨m, hm⟩ : ∃ m, n - (u + 1) = m := ⟨_, rfl⟩
          have hmi : (n : Int) - z = (m : Int) := by omega
          have hw1 : IntKind.i64.wrap ((n : Int) - z) = (m : Int) := by rw [hmi]; exact IntWalk.i64_in _ (by omega)
          have hw2 : IntKind.i64.wrap (z - 1) = (u : Int) := by rw [IntWalk.i64_in _ (by omega)]; omega
          have hw3 : IntKind.i64.wrap (z + 1) = z + 1 := IntWalk.i64_in _ (by omega)
          have hw4 : IntKind.i64.wrap (m : Int) = (m : Int) := IntWalk.i64_in _ (by omega)
          have hand := bit_at k hk62 m
          have hor := or_pow (revK_lt n k u) (show u ≤ 6 by omega)
          obtain ⟨hsh, hpw⟩ := pow_small (show u ≤ 6 by omega)
          rw [hsh] at hor
          have ht := Lib.hid (revK_true (n := n) (c := k) (k := u))
          have hf := Lib.hid (revK_false (n := n) (c := k) (k := u))
          rw [hm] at ht hf
          have hrl := revK_lt n k u
          generalize revK n k u = b at *
          generalize 2 ^ u = Pu at *
          generalize k.testBit m = q at *
          have hm0 : (0 : Int) ≤ (m : Int) := by omega
          have hu0 : (0 : Int) ≤ (u : Int) := by omega
          clear hmi hm
          cases q
          · have hf2 := Lib.hid (hf.out rfl)
            simp only [Bool.false_eq_true, if_false] at hand
            clear ht hf hor hz'
            go_wp2_with fail
            go_roundw
            case rel => exact ⟨u + 1, z + 1, by omega, by first | rfl | rw [hw3], by have := hz.out; unfold Hid; omega, by rw [hf2.out], hwq⟩
            case measure => have := hz.out; simp [intOf]; omega
          · have ht2 := Lib.hid (ht.out rfl)
            simp only [if_true] at hand
            clear ht hf hz'
            go_wp2_with fail
            go_roundw
            case rel => exact ⟨u + 1, z + 1, by omega, by first | rfl | rw [hw3], by have := hz.out; unfold Hid; omega, by rw [ht2.out]; first | rfl | rw [Int.natCast_add], hwq⟩
            case measure => have := hz.out; simp [intOf]; omega
        · obtain rfl : u = n := by omega
          have hgt : ¬ z ≤ (u : Int) := by omega
          have hrl : revB u k < N := by rw [← hN.out]; exact revB_lt u k
          have hrb : revK u k u = revB u k := rfl
          rw [hrb]
          obtain ⟨b, off, rfl, m0⟩ := hb3.out (revB u k) hrl
          rw [← hw.out, ← hwq.out] at m0
          have hyes := Lib.hid (fun h => first_some (n := u) (c := k) (f := f) (by rw [hN.out]; exact hlt) hno.out h)
          have hnext : Hid (f (revB u k) = false → ∀ e, e < k + 1 → f (revB u e) = false) := fun h e he => by
            rcases Nat.lt_succ_iff_lt_or_eq.1 he with h2 | h2
            · exact hno.out e h2
            · rw [h2]; exact h
          have htot := Lib.hid (fun W => l3Total_any u (revB u k) (by omega) (by omega) W)
          have htl := Lib.hid (tot_len u (revB u k))
          generalize hq : f (revB u k) = q at *
          generalize revB u k = bits at *
          have hbi : (bits : Int) < N := by omega
          cases q
          · have hno2 := Lib.hid (hnext.out rfl)
            have hww : Hid (wq = w2) := by unfold Hid; rw [hwq.out, hw.out]
            clear hyes hnext htot htl hno hz'
            go_wp2_with fail
            go_roundw
            case rel => exact ⟨k + 1, by omega, by go_num, hno2, hww⟩
            case measure => simp [intOf]; omega
          · obtain ⟨y1, y2⟩ := hyes.out rfl
            replace y1 := Lib.hid y1
            replace y2 := Lib.hid y2
            have hww : Hid (wq = w2) := by unfold Hid; rw [hwq.out, hw.out]
            clear hyes hnext hno hz'
            go_wp2_with fail
            refine (htot.out _).mono ?_
            rintro e w5 ⟨D, dc, rfl, T5⟩
            have hown2 : w5.ownsRow 0 3 1 (.slice D u dc) (totB u bits).length ((totB u bits).map (.int .i64)) := by rw [htl.out]; exact T5.own (i := 0) rfl
            obtain ⟨_, _, e4, hT⟩ := ints_own hown2 (tot_small (by omega))
            rw [htl.out] at e4
            cases e4
            have hb6 := T5.below
            rw [hww.out] at hb6
            replace hb6 := Lib.hid (btr hB.out hb6)
            replace hT := Lib.hid hT
            clear T5 hown2 htot
            go_wp2_with fail
            go_ret2
            exact ⟨D, dc, by rw [y1.out, y2.out, htl.out]; rfl, by rw [y2.out]; exact hT.out, hb6.out⟩
    · obtain rfl : k = N := by omega
      obtain ⟨y1, y2⟩ := first_none (n := n) (f := f) (fun e he => hno.out e (by rw [← hN.out]; exact he))
      have hww := hw.out
      subst hww
      have hb6 := bal hB.out (.cells #[] 3)
      replace y1 := Lib.hid y1
      replace y2 := Lib.hid y2
      clear hno
      go_wp2_with fail
      go_ret2
      exact ⟨_, 0, by rw [y1.out, y2.out]; rfl, by rw [y2.out]; exact .nil _ _, hb6⟩

/-- A drawn number of variables and a drawn diagram. -/
def DgD (w : World) (e : Ending) (w' : World) : Prop := ∃ (vars r : Int) (ns : List Nd) (B : Option Addr) (c : Nat), -1 ≤ vars ∧ vars ≤ 7 ∧ ns.length ≤ 64 ∧ e = .returned (.tuple #[.int .i64 vars, dgV r (.slice B ns.length c)]) ∧ NdAt w' B ns ∧ (∀ a, B = some a → w.heap.size ≤ a.block) ∧ Below w.heap.size w w'

set_option maxRecDepth 100000 in
set_option maxHeartbeats 4000000 in
theorem drawIsDiagram_any (ca : Option Addr) (cl cc : Nat) (w : World) (hc : CodeOk w ca cl) (hs : cl ≤ 65536) : Calls Tryz.prog 41 #[.slice ca cl cc] w (DgD w) := by
  have S0 := ((Sp.start w).alloc_box #[.int .i64 0, .slice none 0 0] 26).alloc_cur ca cl cc
  simp only [World.size_alloc] at S0
  obtain ⟨hi, hk⟩ := S0.cur (A' := 4) (i := 0) rfl hc hs
  replace hk := Lib.hid hk
  replace hi := Lib.hid hi
  clear S0
  go_enter Tryz.func41, Tryz.ntmps41
  go_wp2_with fail
  refine (cur_vars26 0 (w.heap.size + 1) ca cl cc _ hi.out (by omega)).mono ?_
  rintro e w1 ⟨_, ⟨vars, hv0, hv1, rfl⟩, rfl, hi1, hc1⟩
  have S1 := hk.out w1 hi1 hc1
  obtain ⟨hi2, hk2⟩ := S1.cur (A' := 1004) (i := 0) rfl hc hs
  have hs1 := hi2.lt
  replace hk2 := Lib.hid hk2
  replace hi2 := Lib.hid hi2
  clear hk hi hi1 hc1 S1
  go_wp2_with fail
  refine (cur_diagram vars ⟨hv0, hv1⟩ 4 (w.heap.size + 1) ca cl cc _ hi2.out (by omega)).mono ?_
  rintro e w3 ⟨r, ns, B, c, rfl, hr, hl, hN, hfr, hi3, hc3⟩
  have S5 := hk2.out w3 hi3 hc3
  have e0 := S5.cell (i := 1) rfl (o := 0) rfl
  have e1 := S5.cell (i := 1) rfl (o := 1) rfl
  have f0 := S5.frozen (i := 1) rfl 0
  have f1 := S5.frozen (i := 1) rfl 1
  have S6 := (S5.store (i := 1) rfl 0 (.int .i64 r)).store (i := 1) rfl 1 (.slice B ns.length c)
  have j0 := S6.cell (i := 1) rfl (o := 0) rfl
  have j1 := S6.cell (i := 1) rfl (o := 1) rfl
  have hne : ∀ a, B = some a → a.block ≠ w.heap.size := fun a ha => by have := hfr a ha; omega
  have hN3 := Lib.hid ((hN.set hne 0 (.int .i64 r)).set hne 1 (.slice B ns.length c))
  have hB := S6.below
  have hfr2 : Hid (∀ a, B = some a → w.heap.size ≤ a.block) := fun a ha => by have := hfr a ha; omega
  clear S5 S6 hN hfr hne hk2 hi2 hi3 hc3
  go_wp2_with fail
  exact bodyPost_ret (v := .tuple #[.int .i64 vars, .agg #[.int .i64 r, .slice B ns.length c]]) (by simp [results, Tryz.results41, go_sem, j0, j1]) rfl ⟨vars, r, ns, B, c, hv0, hv1, hl, rfl, hN3.out, hfr2.out, hB⟩

set_option maxRecDepth 100000 in
set_option maxHeartbeats 4000000 in
theorem drawReduce_any (ca : Option Addr) (cl cc : Nat) (w : World) (hc : CodeOk w ca cl) (hs : cl ≤ 65536) : Calls Tryz.prog 6 #[.slice ca cl cc] w (DgD w) := by
  have S0 := (Sp.start w).alloc_box #[.int .i64 0, .slice none 0 0] 26
  have hd := Lib.hid (drawIsDiagram_any ca cl cc _ (hc.grow S0.below) hs)
  replace S0 := Lib.hid S0
  go_enter Tryz.func6, Tryz.ntmps6
  go_wp2_with fail
  refine hd.out.mono ?_
  rintro e w1 ⟨vars, r, ns, B, c, hv0, hv1, hl, rfl, hN, hfr, hb⟩
  have S5 := S0.out.grow hb
  have e0 := S5.cell (i := 0) rfl (o := 0) rfl
  have e1 := S5.cell (i := 0) rfl (o := 1) rfl
  have f0 := S5.frozen (i := 0) rfl 0
  have f1 := S5.frozen (i := 0) rfl 1
  have S6 := (S5.store (i := 0) rfl 0 (.int .i64 r)).store (i := 0) rfl 1 (.slice B ns.length c)
  have j0 := S6.cell (i := 0) rfl (o := 0) rfl
  have j1 := S6.cell (i := 0) rfl (o := 1) rfl
  have hB := S6.below
  clear S5 hd
  have hne : ∀ a, B = some a → a.block ≠ w.heap.size := fun a ha => by have := hfr a ha; simp at this; omega
  have hN3 := Lib.hid ((hN.set hne 0 (.int .i64 r)).set hne 1 (.slice B ns.length c))
  have hfr2 : Hid (∀ a, B = some a → w.heap.size ≤ a.block) := fun a ha => by have := hfr a ha; simp at this; omega
  clear S6 S0 hN hfr hne hb
  go_wp2_with fail
  exact bodyPost_ret (v := .tuple #[.int .i64 vars, .agg #[.int .i64 r, .slice B ns.length c]]) (by simp [results, Tryz.results6, go_sem, j0, j1]) rfl ⟨vars, r, ns, B, c, hv0, hv1, hl, rfl, hN3.out, hfr2.out, hB⟩

/-- A drawn number of variables and drawn numbers. -/
def ClD (w : World) (e : Ending) (w' : World) : Prop := ∃ (vars : Int) (B : Option Addr) (cap : Nat) (xs : List Int) (F : List Nat), -1 ≤ vars ∧ vars ≤ 7 ∧ e = .returned (.tuple #[.int .i64 vars, .slice B xs.length cap]) ∧ Ty.int.row false w' (.slice B xs.length cap) xs F ∧ Below w.heap.size w w'

set_option maxRecDepth 100000 in
set_option maxHeartbeats 4000000 in
theorem drawOfClause_any (ca : Option Addr) (cl cc : Nat) (w : World) (hc : CodeOk w ca cl) (hs : cl ≤ 65536) : Calls Tryz.prog 24 #[.slice ca cl cc] w (ClD w) := by
  have S0 := (Sp.start w).alloc_cur ca cl cc
  obtain ⟨hi, hk⟩ := S0.cur (A' := 4) (i := 0) rfl hc hs
  replace hk := Lib.hid hk
  replace hi := Lib.hid hi
  clear S0
  go_enter Tryz.func24, Tryz.ntmps24
  go_wp2_with fail
  refine (cur_vars26 0 w.heap.size ca cl cc _ hi.out (by omega)).mono ?_
  rintro e w1 ⟨_, ⟨vars, hv0, hv1, rfl⟩, rfl, hi1, hc1⟩
  have S1 := hk.out w1 hi1 hc1
  obtain ⟨hi2, hk2⟩ := S1.cur (A' := 84) (i := 0) rfl hc hs
  replace hk2 := Lib.hid hk2
  replace hi2 := Lib.hid hi2
  have hwS := S1.below.size
  clear hk hi hi1 hc1 S1
  go_wp2_with fail
  refine (cur_anyClause vars (by omega) 4 w.heap.size ca cl cc _ hi2.out (by omega)).mono ?_
  rintro e w3 ⟨v, xs, rfl, ho, hxl, hxi, hi3, hc3⟩
  have hB := (hk2.out w3 hi3 hc3).below
  obtain ⟨F, hr, -⟩ := Ty.row_of_owns (T := Ty.int) ho rfl (by decide) (Ty.all_int hxi)
  obtain ⟨B, cap, rfl⟩ := own_slice ho
  have hr2 := Lib.hid (Ty.row_down hr)
  clear hk2 hi2 hi3 hc3 ho hr hxi
  go_wp2_with fail
  go_ret2
  exact ⟨vars, B, cap, xs, F, hv0, hv1, rfl, hr2.out, hB⟩
end Go.Proofs.YtbemodacpimiiaaGreat

/- Contracts: conjunction traces, their sizes, traces that are told, in the reference. Printed by gen_dth.py. -/
namespace Go.Proofs.YtbemodacpimiiaaGreat
open Go.RowKit

/- left out: the seat has no spec.ConjunctionTrace -/

/- left out: the seat has no spec.ConjunctionSizes -/

/- left out: the seat has no spec.IsConjunctionTrace -/
end Go.Proofs.YtbemodacpimiiaaGreat

/- Contracts: the drawn Cnf of the laws on diagrams. -/
namespace Go.Proofs.YtbemodacpimiiaaGreat
open Go.RowKit

set_option maxRecDepth 100000 in
set_option maxHeartbeats 4000000 in
theorem drawDiagCnf_any (ca : Option Addr) (cl cc : Nat) (w : World) (hc : CodeOk w ca cl) (hs : cl ≤ 65536) : Calls Tryz.prog 20 #[.slice ca cl cc] w (CnfD w) := by
  have S0 := ((Sp.start w).alloc_box #[.int .i64 0, .slice none 0 0] 45).cur_laid ca cl cc
  simp only [World.size_alloc] at S0
  have hi := Lib.hid (S0.cur (A' := 0) (i := 0) rfl hc hs).1
  replace S0 := Lib.hid S0
  go_enter Tryz.func20, Tryz.ntmps20
  go_wp2_with fail
  refine (cur_cnf 0 (w.heap.size + 1) ca cl cc _ hi.out (by omega)).mono ?_
  rintro e w1 ⟨vars, B, cap, cs, xss, rfl, hv0, hv1, hl, HC, T⟩
  replace HC := Lib.hid HC
  have S1 := ((S0.out.cs_call T hc hs).alloc_box #[.int .i64 vars, .slice B xss.length cap] 45).pick [2, 1, 0, 0] rfl
  clear T S0 hi
  obtain ⟨hi2, hk2⟩ := S1.cur (A' := 2002) (i := 0) rfl hc hs
  replace hk2 := Lib.hid hk2
  replace hi2 := Lib.hid hi2
  clear S1
  go_wp2_with fail
  refine (cur_one 24 _ (w.heap.size + 1) ca cl cc _ hi2.out (by omega) (by omega)).mono ?_
  rintro e w2 ⟨_, ⟨q, rfl⟩, rfl, hi3, hc3⟩
  have S2 := hk2.out w2 (hi3.mono (by omega)) hc3
  clear hk2 hi2 hi3 hc3
  cases q
  · have e0 := S2.cell (i := 2) rfl (o := 0) rfl
    have e1 := S2.cell (i := 2) rfl (o := 1) rfl
    have r0 := S2.cell (i := 3) rfl (o := 0) rfl
    have r1 := S2.cell (i := 3) rfl (o := 1) rfl
    have f0 := S2.frozen (i := 3) rfl 0
    have f1 := S2.frozen (i := 3) rfl 1
    have S6 := (S2.store (i := 3) rfl 0 (.int .i64 vars)).store (i := 3) rfl 1 (.slice B xss.length cap)
    have j0 := S6.cell (i := 3) rfl (o := 0) rfl
    have j1 := S6.cell (i := 3) rfl (o := 1) rfl
    have hR := Lib.hid (Sp.front (qs := [_]) (S6.pick [1, 0, 0, 0] rfl))
    clear S6 S2
    go_wp2_with fail
    exact bodyPost_ret (v := .agg #[.int .i64 vars, .slice B xss.length cap]) (by simp [results, Tryz.results20, go_sem, j0, j1]) rfl ⟨vars, B, cap, cs, xss, rfl, hv0, hv1, hl, HC.out, hR.out⟩
  · have S3 := S2.alloc (.cells #[.int .i64 6, .int .i64 7] 3)
    obtain ⟨hi4, hk4⟩ := S3.cur (A' := 2004) (i := 0) rfl hc hs
    have hlt : w.heap.size + 1 < w2.heap.size := (S2.cur (A' := 2004) (i := 0) rfl hc hs).1.lt
    have hk4 := Lib.hid hk4
    have hcall := Lib.hid (cur_among 6 7 w2.heap.size 0 2 2 2002 (w.heap.size + 1) ca cl cc _ hi4 (by omega) (by omega) (by omega) (ints_new rfl fun j hj => by
      match j, hj with
      | 0, _ => exact ⟨_, rfl, by decide, by decide⟩
      | 1, _ => exact ⟨_, rfl, by decide, by decide⟩) (by omega))
    clear hi4 S3 S2
    go_wp2_with fail
    refine hcall.out.mono ?_
    rintro e w3 ⟨_, ⟨z, hz0, hz1, rfl⟩, rfl, hi5, hc5⟩
    have S5 := hk4.out w3 (hi5.mono (by omega)) hc5
    have g0 := S5.frozen (i := 2) rfl 0
    have g1 := S5.cell (i := 2) rfl (o := 1) rfl
    have g2 := S5.cell (i := 2) rfl (o := 0) rfl
    have S5b := S5.store (i := 2) rfl 0 (.int .i64 z)
    have e0 := S5b.cell (i := 2) rfl (o := 0) rfl
    have e1 := S5b.cell (i := 2) rfl (o := 1) rfl
    have r0 := S5b.cell (i := 3) rfl (o := 0) rfl
    have r1 := S5b.cell (i := 3) rfl (o := 1) rfl
    have f0 := S5b.frozen (i := 3) rfl 0
    have f1 := S5b.frozen (i := 3) rfl 1
    have S6 := (S5b.store (i := 3) rfl 0 (.int .i64 z)).store (i := 3) rfl 1 (.slice B xss.length cap)
    have j0 := S6.cell (i := 3) rfl (o := 0) rfl
    have j1 := S6.cell (i := 3) rfl (o := 1) rfl
    have hR := Lib.hid (Sp.front (qs := [_]) (S6.pick [1, 0, 0, 0] rfl))
    clear S6 S5 S5b hcall hk4 hi5 hc5
    go_wp2_with fail
    exact bodyPost_ret (v := .agg #[.int .i64 z, .slice B xss.length cap]) (by simp [results, Tryz.results20, go_sem, j0, j1]) rfl ⟨z, B, cap, cs, xss, rfl, by omega, by omega, hl, HC.out, hR.out⟩

/- left out: the seat has no spec.DrawConjunctionTrace -/
end Go.Proofs.YtbemodacpimiiaaGreat

/- The law of diagrams, in plain terms; contracts that the walk of the law calls. -/
namespace Go.Proofs.YtbemodacpimiiaaGreat
open Go.RowKit

theorem deM_law {n : Nat} (f g : Nat → Bool) :
    dgN n (fun b => valD (dgR n fun b => !f b) (dgN n fun b => !f b) b || valD (dgR n fun b => !g b) (dgN n fun b => !g b) b) = dgN n (fun b => !(valD (dgR n fun b => f b && g b) (dgN n fun b => f b && g b) b)) ∧
    dgR n (fun b => valD (dgR n fun b => !f b) (dgN n fun b => !f b) b || valD (dgR n fun b => !g b) (dgN n fun b => !g b) b) = dgR n (fun b => !(valD (dgR n fun b => f b && g b) (dgN n fun b => f b && g b) b)) :=
  dg_congr fun b hb => by rw [dg_val hb, dg_val hb, dg_val hb, Bool.not_and]
theorem cnt_law {n : Nat} (f g : Nat → Bool) :
    cntB n f + cntB n g = cntB n (valD (dgR n fun b => f b && g b) (dgN n fun b => f b && g b)) + cntB n (valD (dgR n fun b => f b || g b) (dgN n fun b => f b || g b)) := by
  rw [cnt_and_or n f g]
  congr 1
  · exact cnt_congr fun b hb => (dg_val (f := fun b => f b && g b) hb).symm
  · exact cnt_congr fun b hb => (dg_val (f := fun b => f b || g b) hb).symm
theorem forget_law {n : Nat} (f g : Nat → Bool) :
    dgN n (fun b => valD (dgR n f) (dgN n f) b || valD (dgR n g) (dgN n g) b) = dgN n (fun b => f b || g b) ∧ dgR n (fun b => valD (dgR n f) (dgN n f) b || valD (dgR n g) (dgN n g) b) = dgR n (fun b => f b || g b) :=
  dg_congr fun b hb => by rw [dg_val hb, dg_val hb]
theorem cnt_small {n : Nat} (hn : n ≤ 6) (f : Nat → Bool) : cntB n f ≤ 64 := by
  have h := cntK_le (2 ^ n) f
  have := (pow_small hn).2
  exact Nat.le_trans h this

/-- A diagram and true. -/
def DgYes (w : World) (r : Int) (ns : List Nd) (e : Ending) (w' : World) : Prop := ∃ A c, e = .returned (.tuple #[dgV r (.slice A ns.length c), .bool true]) ∧ NdAt w' A ns ∧ Below w.heap.size w w'
theorem DgTold.yes {w : World} {ok : Bool} {n : Nat} {f : Nat → Bool} {e : Ending} {w' : World} (h : DgTold w ok (outR ok n f) (outN ok n f) e w') (hok : ok = true) : DgYes w (dgR n f) (dgN n f) e w' := by
  subst hok
  obtain ⟨A, c, h1, h2, _, h4⟩ := h
  exact ⟨A, c, h1, h2, h4⟩
section
variable {n : Nat}

/- left out: the seat has no impl.NotDiagram -/

/- left out: the seat has no impl.OrDiagrams -/

/- left out: the seat has no impl.SetInDiagram -/

theorem cnt_yes (r : Int) (A : Option Addr) (c : Nat) (ns : List Nd) (w : World) (hx : NdAt w A ns) (hl : ns.length ≤ 1000000) (hg : goodD n r ns = true) :
    Calls Tryz.prog 13 #[.int .i64 n, dgV r (.slice A ns.length c)] w fun e w' => e = .returned (.tuple #[.int .i64 (cntB n (valD r ns) : Nat), .bool true]) ∧ Below w.heap.size w w' :=
  (count_any n r A c ns w hx hl).mono fun e w' h => by rw [hg] at h; exact h

end

theorem vBig_any (ca : Option Addr) (cl cc : Nat) (w : World) : Calls Tryz.prog 5 #[.slice ca cl cc] w fun e w' => e = .returned (.bool (decide ((65536 : Int) < (cl : Int)))) ∧ w' = w := by
  go_enter Tryz.func5, Tryz.ntmps5
  go_wp2_with fail
  go_ret
  exact ⟨rfl, rfl⟩

theorem out_len (ok : Bool) {vars : Int} (hv : vars ≤ 7) (f : Nat → Bool) : (outN ok vars f).length ≤ 1000 := by
  unfold outN
  split
  · have h1 := plan_len f vars.toNat 1 0 []
    have h2 : 2 ^ vars.toNat ≤ 2 ^ 7 := Nat.pow_le_pow_right (by decide) (by omega)
    unfold dgN
    simp only [List.length_nil] at h1
    omega
  · simp
end Go.Proofs.YtbemodacpimiiaaGreat

/- Rows of bytes, read from the form's arguments. No program in sight. -/
namespace Go.Proofs.YtbemodacpimiiaaGreat
open Go.RowKit Go.Deep

def U8 (n : Int) : Prop := 0 ≤ n ∧ n ≤ 255
def Ty.byte : Ty Int where
  size := 1
  rep _ _ cs n F := cs = [.int .u8 n] ∧ U8 n ∧ F = []
  len h := by obtain ⟨rfl, _, _⟩ := h; rfl
  lt h := by obtain ⟨_, _, rfl⟩ := h; simp
  keep h _ := h
  down h := h
theorem Opens.byte {P : Program} {t : TypeId} (ht : P.underlying t = some (.int .u8)) : Opens P t Ty.byte := by
  intro H enc w spare held fuel cs y h
  obtain ⟨n, rfl, _, hw⟩ := DataW.trod_int ht h
  have hb : 0 ≤ n ∧ n ≤ 255 := by
    simp [Lit.wf, IntKind.min, IntKind.max, IntKind.signed, IntKind.bits] at hw
    omega
  exact ⟨n, [], rfl, hb, rfl⟩
theorem Ty.all_byte_inv {wr : Bool} {w : World} : ∀ {cs : List Value} {xs : List Int} {F : List Nat}, Ty.byte.all wr w cs xs F → cs = xs.map (.int .u8) ∧ F = [] ∧ ∀ x ∈ xs, U8 x
  | _, [], _, h => ⟨h.1, h.2, by simp⟩
  | _, x :: xs, _, h => by
    obtain ⟨c, d, F1, F2, rfl, rfl, ⟨rfl, hx, rfl⟩, h2⟩ := h
    obtain ⟨rfl, rfl, h3⟩ := Ty.all_byte_inv h2
    exact ⟨rfl, rfl, fun y hy => by rcases List.mem_cons.1 hy with rfl | hy; exact hx; exact h3 y hy⟩
/-- A row of bytes: its slice and its cells. -/
theorem row_byte {wr : Bool} {w : World} {v : Value} {xs : List Int} {F : List Nat} (h : Ty.byte.row wr w v xs F) :
    ∃ a cap, v = .slice a xs.length cap ∧ ∀ j, j < xs.length → ∃ cb off x, a = some ⟨cb, off, none⟩ ∧ w.cell? ⟨cb, off + j, none⟩ = some (.int .u8 x) ∧ 0 ≤ x ∧ x ≤ 255 := by
  obtain ⟨a, cap, cs, G, rfl, h1, h2, hall, h⟩ := h
  obtain ⟨rfl, rfl, hi⟩ := Ty.all_byte_inv hall
  refine ⟨a, cap, rfl, fun j hj => ?_⟩
  rcases h with ⟨rfl, _⟩ | ⟨_, hne, b, off, rfl, rfl, hc⟩
  · simp at hj
  · have := hc j (by simpa using hj)
    have hx := hi xs[j] (List.getElem_mem hj)
    exact ⟨b, off, xs[j], rfl, by have h3 := this.1; simpa using h3, hx.1, hx.2⟩
end Go.Proofs.YtbemodacpimiiaaGreat

/- Helpers for the walk of FnDiagrams. -/
namespace Go.Proofs.YtbemodacpimiiaaGreat
open Go.RowKit

theorem out_first (ok : Bool) (vars : Int) (f : Nat → Bool) : outFB ok vars f = (ok && decide (0 < outC ok vars f)) := by
  cases ok
  · rfl
  · unfold outFB outC
    rw [Bool.true_and, Bool.true_and, first_cnt, if_pos rfl]
    exact decide_eq_decide.2 (by omega)
theorem out_firstl (ok : Bool) {vars : Int} (hv : vars ≤ 7) (f : Nat → Bool) : (outF ok vars f).length ≤ 1000 := by
  unfold outF firstL
  split
  · split
    · rw [tot_len]; omega
    · simp
  · simp
theorem cnf_out_len {ok : Bool} {vars : Int} {xss : List (List Int)} (h : dCnf vars xss = ok) : (outN ok vars (modT xss)).length ≤ 1000 := by
  cases ok
  · exact Nat.zero_le _
  · unfold dCnf at h
    rw [Bool.and_eq_true, inB_def] at h
    exact out_len true (by omega) (modT xss)

set_option maxHeartbeats 1000000 in
theorem vAtU_any (ca : Option Addr) (cl cc : Nat) (i : Nat) (w : World) (hc : CodeOk w ca cl) (hs : cl ≤ 65536) (hi : i ≤ 1000) :
    Calls Tryz.prog 18 #[.slice ca cl cc, .int .i64 i] w fun e w' => ∃ x : Int, 0 ≤ x ∧ x ≤ 255 ∧ e = .returned (.int .i64 x) ∧ w = w' := by
  by_cases h : i < cl
  · obtain ⟨cb, off, x, rfl, hcell, hx0, hx1⟩ := hc i h
    have h' : (i : Int) < (cl : Int) := by omega
    clear hc
    go_enter Tryz.func18, Tryz.ntmps18
    go_wp2_with fail
    go_ret
    exact ⟨x, hx0, hx1, by first | rfl | (congr 2; omega), rfl⟩
  · have h' : ¬ (i : Int) < (cl : Int) := by omega
    clear hc
    go_enter Tryz.func18, Tryz.ntmps18
    go_wp2_with fail
    go_ret
    exact ⟨_, by omega, by omega, rfl, rfl⟩
end Go.Proofs.YtbemodacpimiiaaGreat
