/- Lemmas and contracts for a law, put together out of several texts: CyF DtI DgS. -/
import Derived.Test.YtbemodacpimiiaaMg9
import Derived.Test.YtbemodacpimiiaaMg8
import Derived.Test.YtbemodacpimiiaaMg4
import Derived.Test.YtbemodacpimiiaaMg3
/- Contracts: drawn Cnfs as inputs of laws. -/
namespace Go.Proofs.Ytbemodacpimiiaa
open Go.RowKit

section
variable {w0 w w' : World} {ps qs : List Asn} {A A' g cl cc : Nat} {ca : Option Addr}
theorem Sp.cur_laid (h : Sp w0 w ps) (ca : Option Addr) (cl cc : Nat) : Sp w0 (w.alloc (.cells #[.slice ca cl cc, .int .i64 0, .int .u64 0] 98)) (CurA 0 w.heap.size ca cl cc :: ps) :=
  h.new (bal (bb w) _) (F := [w.heap.size]) ⟨rfl, 0, 0, heap_alloc_new w _, Nat.le_refl 0, Int.le_refl 0, by omega⟩ (by simp)
theorem Sp.cs_call (h : Sp w0 w (CurA A g ca cl cc :: ps)) (k : CS w g ca cl cc A' w' qs) (hc : CodeOk w0 ca cl) (hs : cl ≤ 65536) : Sp w0 w' (qs ++ CurA A' g ca cl cc :: ps) := by
  have hb := ((h.cur (A' := A') (i := 0) rfl hc hs).2 w' k.cur k.chg).below
  obtain ⟨h1, F, ⟨F1, F2, rfl, hd, ⟨rfl, -⟩, h5⟩, h3⟩ := h
  have hg : g < w.heap.size := by
    obtain ⟨A0, h0⟩ := k.1
    exact h0.lt
  obtain ⟨k0, k1, k2, G, k3, k4⟩ := k
  have hk := sep_keep h5 fun b hm => k2.block b (sep_lt h5 b hm) fun hb => by
    obtain rfl : b = g := by simpa using hb
    exact hd b (by simp) hm
  refine ⟨hb, G ++ ([g] ++ F2), sep_append k3 ⟨[g], F2, rfl, hd, ⟨rfl, k1.ok⟩, hk⟩ (fun b hb hb2 => ?_), fun b hb => ?_⟩
  · have := k4 b hb
    rcases List.mem_append.1 hb2 with h' | h'
    · obtain rfl : b = g := by simpa using h'
      omega
    · have := sep_lt h5 b h'; omega
  · rcases List.mem_append.1 hb with hb | hb
    · have := k4 b hb; have := h1.size; omega
    · exact h3 b hb
end
/-- A drawn Cnf of its own. -/
def CnfD (w : World) (e : Ending) (w' : World) : Prop := ∃ (vars : Int) (B : Option Addr) (cap : Nat) (cs : List Value) (xss : List (List Int)), e = .returned (.agg #[.int .i64 vars, .slice B xss.length cap]) ∧ -1 ≤ vars ∧ vars ≤ 13 ∧ xss.length ≤ 62 ∧ SmallR 13 xss ∧
  Sp w w' [Rows Ty.int 35 (.slice B xss.length cap) cs xss]

/- left out: the seat has no spec.DrawIsCnf -/

/- left out: the seat has no spec.DrawBackboneOf -/
end Go.Proofs.Ytbemodacpimiiaa

/- Contracts: the drawn Cnf of the laws on diagrams. -/
namespace Go.Proofs.Ytbemodacpimiiaa
open Go.RowKit

set_option maxRecDepth 100000 in
set_option maxHeartbeats 4000000 in
theorem drawDiagCnf_any (ca : Option Addr) (cl cc : Nat) (w : World) (hc : CodeOk w ca cl) (hs : cl ≤ 65536) : Calls Try.prog 59 #[.slice ca cl cc] w (CnfD w) := by
  have S0 := ((Sp.start w).alloc_box #[.int .i64 0, .slice none 0 0] 26).cur_laid ca cl cc
  simp only [World.size_alloc] at S0
  have hi := Lib.hid (S0.cur (A' := 0) (i := 0) rfl hc hs).1
  replace S0 := Lib.hid S0
  go_enter Try.func59, Try.ntmps59
  go_wp2_with fail
  refine (cur_cnf 0 (w.heap.size + 1) ca cl cc _ hi.out (by omega)).mono ?_
  rintro e w1 ⟨vars, B, cap, cs, xss, rfl, hv0, hv1, hl, HC, T⟩
  replace HC := Lib.hid HC
  have S1 := ((S0.out.cs_call T hc hs).alloc_box #[.int .i64 vars, .slice B xss.length cap] 26).pick [2, 1, 0, 0] rfl
  clear T S0 hi
  obtain ⟨hi2, hk2⟩ := S1.cur (A' := 2002) (i := 0) rfl hc hs
  replace hk2 := Lib.hid hk2
  replace hi2 := Lib.hid hi2
  clear S1
  go_wp2_with fail
  refine (cur_one 24 _ (w.heap.size + 1) ca cl cc _ hi2.out (by omega) (by omega)).mono ?_
  rintro e w2 ⟨_, ⟨q, rfl⟩, rfl, hi3, hc3⟩
  have S2 := hk2.out w2 (hi3.mono (by omega)) hc3
  clear hk2 hi2 hi3 hc3
  cases q
  · have e0 := S2.cell (i := 2) rfl (o := 0) rfl
    have e1 := S2.cell (i := 2) rfl (o := 1) rfl
    have r0 := S2.cell (i := 3) rfl (o := 0) rfl
    have r1 := S2.cell (i := 3) rfl (o := 1) rfl
    have f0 := S2.frozen (i := 3) rfl 0
    have f1 := S2.frozen (i := 3) rfl 1
    have S6 := (S2.store (i := 3) rfl 0 (.int .i64 vars)).store (i := 3) rfl 1 (.slice B xss.length cap)
    have j0 := S6.cell (i := 3) rfl (o := 0) rfl
    have j1 := S6.cell (i := 3) rfl (o := 1) rfl
    have hR := Lib.hid (Sp.front (qs := [_]) (S6.pick [1, 0, 0, 0] rfl))
    clear S6 S2
    go_wp2_with fail
    exact bodyPost_ret (v := .agg #[.int .i64 vars, .slice B xss.length cap]) (by simp [results, Try.results59, go_sem, j0, j1]) rfl ⟨vars, B, cap, cs, xss, rfl, hv0, hv1, hl, HC.out, hR.out⟩
  · have S3 := S2.alloc (.cells #[.int .i64 6, .int .i64 7] 3)
    obtain ⟨hi4, hk4⟩ := S3.cur (A' := 2004) (i := 0) rfl hc hs
    have hlt : w.heap.size + 1 < w2.heap.size := (S2.cur (A' := 2004) (i := 0) rfl hc hs).1.lt
    have hk4 := Lib.hid hk4
    have hcall := Lib.hid (cur_among 6 7 w2.heap.size 0 2 2 2002 (w.heap.size + 1) ca cl cc _ hi4 (by omega) (by omega) (by omega) (ints_new rfl fun j hj => by
      match j, hj with
      | 0, _ => exact ⟨_, rfl, by decide, by decide⟩
      | 1, _ => exact ⟨_, rfl, by decide, by decide⟩) (by omega))
    clear hi4 S3 S2
    go_wp2_with fail
    refine hcall.out.mono ?_
    rintro e w3 ⟨_, ⟨z, hz0, hz1, rfl⟩, rfl, hi5, hc5⟩
    have S5 := hk4.out w3 (hi5.mono (by omega)) hc5
    have g0 := S5.frozen (i := 2) rfl 0
    have g1 := S5.cell (i := 2) rfl (o := 1) rfl
    have g2 := S5.cell (i := 2) rfl (o := 0) rfl
    have S5b := S5.store (i := 2) rfl 0 (.int .i64 z)
    have e0 := S5b.cell (i := 2) rfl (o := 0) rfl
    have e1 := S5b.cell (i := 2) rfl (o := 1) rfl
    have r0 := S5b.cell (i := 3) rfl (o := 0) rfl
    have r1 := S5b.cell (i := 3) rfl (o := 1) rfl
    have f0 := S5b.frozen (i := 3) rfl 0
    have f1 := S5b.frozen (i := 3) rfl 1
    have S6 := (S5b.store (i := 3) rfl 0 (.int .i64 z)).store (i := 3) rfl 1 (.slice B xss.length cap)
    have j0 := S6.cell (i := 3) rfl (o := 0) rfl
    have j1 := S6.cell (i := 3) rfl (o := 1) rfl
    have hR := Lib.hid (Sp.front (qs := [_]) (S6.pick [1, 0, 0, 0] rfl))
    clear S6 S5 S5b hcall hk4 hi5 hc5
    go_wp2_with fail
    exact bodyPost_ret (v := .agg #[.int .i64 z, .slice B xss.length cap]) (by simp [results, Try.results59, go_sem, j0, j1]) rfl ⟨z, B, cap, cs, xss, rfl, by omega, by omega, hl, HC.out, hR.out⟩

set_option maxRecDepth 100000 in
set_option maxHeartbeats 4000000 in
theorem drawConjTrace_any (ca : Option Addr) (cl cc : Nat) (w : World) (hc : CodeOk w ca cl) (hs : cl ≤ 65536) : Calls Try.prog 8 #[.slice ca cl cc] w (CnfD w) := by
  have S0 := (Sp.start w).alloc_box #[.int .i64 0, .slice none 0 0] 26
  have hd := Lib.hid (drawDiagCnf_any ca cl cc _ (hc.grow S0.below) hs)
  replace S0 := Lib.hid S0
  go_enter Try.func8, Try.ntmps8
  go_wp2_with fail
  refine hd.out.mono ?_
  rintro e w1 ⟨vars, B, cap, cs, xss, rfl, hv0, hv1, hl, HC, T⟩
  replace HC := Lib.hid HC
  have S1 := S0.out.seq T
  clear T S0 hd
  have f0 := S1.frozen (i := 1) rfl 0
  have f1 := S1.frozen (i := 1) rfl 1
  have e0 := S1.cell (i := 1) rfl (o := 0) rfl
  have e1 := S1.cell (i := 1) rfl (o := 1) rfl
  have S6 := (S1.store (i := 1) rfl 0 (.int .i64 vars)).store (i := 1) rfl 1 (.slice B xss.length cap)
  have j0 := S6.cell (i := 1) rfl (o := 0) rfl
  have j1 := S6.cell (i := 1) rfl (o := 1) rfl
  have hR := Lib.hid (Sp.front (qs := [_]) S6)
  clear S6 S1
  go_wp2_with fail
  exact bodyPost_ret (v := .agg #[.int .i64 vars, .slice B xss.length cap]) (by simp [results, Try.results8, go_sem, j0, j1]) rfl ⟨vars, B, cap, cs, xss, rfl, hv0, hv1, hl, HC.out, hR.out⟩
end Go.Proofs.Ytbemodacpimiiaa

/- Contracts: numbers of variables and literals that are drawn. -/
namespace Go.Proofs.Ytbemodacpimiiaa
open Go.RowKit

/- left out: the seat has no (*loop.example/g01080/spec.l1Cur).vars26 -/

theorem lit_three {w1 : World} {vars : Int} {g A cl cc : Nat} {ca : Option Addr} (h : CurIs A g ca cl cc w1) (hv : -1 ≤ vars ∧ vars ≤ 7) (hA : A ≤ 80000000) :
    Calls Try.prog 80 #[.pointer (some ⟨g, 0, none⟩), .slice (some ⟨w1.heap.size, 0, none⟩) 3 3] (w1.alloc (.cells #[.int .i64 0, .int .i64 (vars + 1), .int .i64 (-vars - 1)] 3)) (CurPost (IntIn (-8) 8) (A + 2) g ca cl cc (w1.alloc (.cells #[.int .i64 0, .int .i64 (vars + 1), .int .i64 (-vars - 1)] 3))) := by
  have hg := h.lt
  refine cur_among (-8) 8 w1.heap.size 0 3 3 A g ca cl cc _ (h.grow (bal (bb _) _)) (by omega) (by decide) (by decide) (ints_new rfl fun j hj => ?_) (by omega)
  match j, hj with
  | 0, _ => exact ⟨_, rfl, by decide, by decide⟩
  | 1, _ => exact ⟨_, rfl, by omega, by omega⟩
  | 2, _ => exact ⟨_, rfl, by omega, by omega⟩

set_option maxRecDepth 100000 in
set_option maxHeartbeats 4000000 in
theorem cur_lit (vars : Int) (hv : -1 ≤ vars ∧ vars ≤ 7) (A g : Nat) (ca : Option Addr) (cl cc : Nat) (w : World) (h : CurIs A g ca cl cc w) (hA : A ≤ 70000000) :
    Calls Try.prog 182 #[.pointer (some ⟨g, 0, none⟩), .int .i64 vars] w (CurPost (IntIn (-8) 8) (A + 8) g ca cl cc w) := by
  have hg := h.lt
  have w1' : IntKind.i64.wrap (vars + 1) = vars + 1 := IntWalk.i64_in _ (by omega)
  have w2' : IntKind.i64.wrap (-vars) = -vars := IntWalk.i64_in _ (by omega)
  have w3' : IntKind.i64.wrap (-vars - 1) = -vars - 1 := IntWalk.i64_in _ (by omega)
  have S0 := Lib.hid (CS.start h)
  by_cases hlt : vars < 1
  · have hcall := Lib.hid (lit_three h hv (by omega))
    go_enter Try.func182, Try.ntmps182
    go_wp2_with fail
    refine hcall.out.mono ?_
    rintro e w2 ⟨_, ⟨z, hz0, hz1, rfl⟩, rfl, hi2, hc2⟩
    have hC := ((S0.out.alloc _).turn hi2 hc2).chg
    clear S0 hc2 hcall
    go_wp2_with fail
    go_ret
    exact ⟨_, ⟨z, hz0, hz1, rfl⟩, rfl, hi2.mono (by omega), hC⟩
  · go_enter Try.func182, Try.ntmps182
    go_wp2_with fail
    refine (cur_one 40 A g ca cl cc w h (by omega) (by omega)).mono ?_
    rintro e w1 ⟨_, ⟨q, rfl⟩, rfl, hi1, hc1⟩
    have S1 := Lib.hid (S0.out.turn hi1 hc1)
    have hg1 := hi1.lt
    clear S0 hc1
    cases q
    · go_wp2_with fail
      refine (cur_pick_at (lo := 0) (hi := vars - 1) hi1 (by omega) (by omega) (by omega) (by omega) (by omega)).mono ?_
      rintro e w2 ⟨_, ⟨x, hx0, hx1, rfl⟩, rfl, hi2, hc2⟩
      have S2 := Lib.hid (S1.out.turn hi2 hc2)
      have w4 : IntKind.i64.wrap (1 + x) = 1 + x := IntWalk.i64_in _ (by omega)
      have w5 : IntKind.i64.wrap (-(1 + x)) = -(1 + x) := IntWalk.i64_in _ (by omega)
      clear S1 hc2
      go_wp2_with fail
      refine (cur_one 2 _ g ca cl cc _ hi2 (by omega) (by omega)).mono ?_
      rintro e w3 ⟨_, ⟨q, rfl⟩, rfl, hi3, hc3⟩
      have hC := (S2.out.turn hi3 hc3).chg
      clear S2 hc3
      cases q
      · go_wp2_with fail
        go_ret
        exact ⟨_, ⟨1 + x, by omega, by omega, rfl⟩, rfl, hi3.mono (by omega), hC⟩
      · go_wp2_with fail
        go_ret
        exact ⟨_, ⟨-(1 + x), by omega, by omega, rfl⟩, rfl, hi3.mono (by omega), hC⟩
    · have hcall := Lib.hid (lit_three hi1 hv (by omega))
      go_wp2_with fail
      refine hcall.out.mono ?_
      rintro e w2 ⟨_, ⟨z, hz0, hz1, rfl⟩, rfl, hi2, hc2⟩
      have hC := ((S1.out.alloc _).turn hi2 hc2).chg
      clear S1 hc2 hcall
      go_wp2_with fail
      go_ret
      exact ⟨_, ⟨z, hz0, hz1, rfl⟩, rfl, hi2.mono (by omega), hC⟩
end Go.Proofs.Ytbemodacpimiiaa
