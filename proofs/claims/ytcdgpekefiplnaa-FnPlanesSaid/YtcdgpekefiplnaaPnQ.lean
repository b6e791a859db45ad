/- Contracts: the inputs of the law of inequalities, drawn. -/
import Derived.Test.YtcdgpekefiplnaaPnO
import Derived.Test.YtcdgpekefiplnaaPnM
namespace Go.Proofs.Ytcdgpekefiplnaa
open Go.RowKit

section
variable {w0 w : World} {ps : List Asn}
theorem Sp.cur_made (h : Sp w0 w ps) (ca : Option Addr) (cl cc : Nat) : Sp w0 (w.alloc (.cells #[.slice ca cl cc, .int .i64 0, .int .u64 0] 54)) (CurA 0 w.heap.size ca cl cc :: ps) :=
  h.new (bal (bb _) _) (F := [w.heap.size]) ⟨rfl, 0, 0, heap_alloc_new w _, Nat.le_refl 0, Int.le_refl 0, by omega⟩ (by simp)
end
/-- A drawn inequality beside a number of variables. -/
def PlaneIn (w : World) (e : Ending) (w' : World) : Prop :=
  ∃ (vars b : Int) (cs : List Int) (B : Option Addr) (c : Nat), -1 ≤ vars ∧ vars ≤ 13 ∧ cs.length ≤ 14 ∧ e = .returned (.tuple #[.int .i64 vars, .agg #[.slice B cs.length c, .int .i64 b]]) ∧ IntsAt w' B cs ∧ (∀ a, B = some a → w.heap.size ≤ a.block) ∧ Below w.heap.size w w'

set_option maxRecDepth 100000 in
set_option maxHeartbeats 8000000 in
theorem drawIsInequality_any (ca : Option Addr) (cl cc : Nat) (w : World) (hc : CodeOk w ca cl) (hs : cl ≤ 65536) :
    Calls Try.prog 36 #[.slice ca cl cc] w (PlaneIn w) := by
  have S0 := ((Sp.start w).alloc_box #[.slice none 0 0, .int .i64 0] 26).cur_made ca cl cc
  simp only [World.size_alloc] at S0
  obtain ⟨hi, hk⟩ := S0.cur (A' := 4) (i := 0) rfl hc hs
  replace hk := Lib.hid hk
  replace hi := Lib.hid hi
  clear S0
  go_enter Try.func36, Try.ntmps36
  go_wp2_with fail
  refine (cur_vars6 0 (w.heap.size + 1) ca cl cc _ hi.out (by omega)).mono ?_
  rintro e w1 ⟨_, ⟨vars, hv0, hv1, rfl⟩, rfl, hi1, hc1⟩
  have S1 := hk.out w1 hi1 hc1
  obtain ⟨hi2, hk2⟩ := S1.cur (A' := 204) (i := 0) rfl hc hs
  have hs1 := hi2.lt
  replace hk2 := Lib.hid hk2
  replace hi2 := Lib.hid hi2
  clear hk hi hi1 hc1 S1
  go_wp2_with fail
  refine (cur_plane vars ⟨hv0, hv1⟩ 4 (w.heap.size + 1) ca cl cc _ hi2.out (by omega)).mono ?_
  rintro e w3 ⟨B, c, ns, b, rfl, hl, hb, hN, hfr, hi3, hc3⟩
  have S3 := hk2.out w3 hi3 hc3
  have e0 := S3.cell (i := 1) rfl (o := 0) rfl
  have e1 := S3.cell (i := 1) rfl (o := 1) rfl
  have f0 := S3.frozen (i := 1) rfl 0
  have f1 := S3.frozen (i := 1) rfl 1
  have S6 := (S3.store (i := 1) rfl 0 (.slice B ns.length c)).store (i := 1) rfl 1 (.int .i64 b)
  have j0 := S6.cell (i := 1) rfl (o := 0) rfl
  have j1 := S6.cell (i := 1) rfl (o := 1) rfl
  have hne : ∀ a, B = some a → a.block ≠ w.heap.size := fun a ha => by have := hfr a ha; omega
  have hN3 := Lib.hid ((hN.set hne 0 (.slice B ns.length c)).set hne 1 (.int .i64 b))
  have hB := S6.below
  have hfr2 := Lib.hid (fun a (ha : B = some a) => show w.heap.size ≤ a.block by have := hfr a ha; omega)
  clear S3 S6 hN hfr hne hk2 hi2 hi3 hc3
  go_wp2_with fail
  exact bodyPost_ret (v := .tuple #[.int .i64 vars, .agg #[.slice B ns.length c, .int .i64 b]]) (by simp [results, Try.results36, go_sem, j0, j1]) rfl ⟨vars, b, ns, B, c, hv0, hv1, hl, rfl, hN3.out, hfr2.out, hB⟩

set_option maxRecDepth 100000 in
set_option maxHeartbeats 8000000 in
theorem drawOpposite_any (ca : Option Addr) (cl cc : Nat) (w : World) (hc : CodeOk w ca cl) (hs : cl ≤ 65536) :
    Calls Try.prog 12 #[.slice ca cl cc] w (PlaneIn w) := by
  have S0 := (Sp.start w).alloc_box #[.slice none 0 0, .int .i64 0] 26
  have hc1 := Lib.hid (drawIsInequality_any ca cl cc _ (hc.grow S0.below) hs)
  replace S0 := Lib.hid S0
  go_enter Try.func12, Try.ntmps12
  go_wp2_with fail
  refine hc1.out.mono ?_
  rintro e w3 ⟨vars, b, ns, B, c, hv0, hv1, hl, rfl, hN, hfr, hb3⟩
  have S3 := S0.out.grow hb3
  have hsz := hb3.size
  simp only [World.size_alloc] at hsz hfr
  obtain ⟨-, hlt, -⟩ := S3.box (i := 0) rfl
  have e0 := S3.cell (i := 0) rfl (o := 0) rfl
  have e1 := S3.cell (i := 0) rfl (o := 1) rfl
  have f0 := S3.frozen (i := 0) rfl 0
  have f1 := S3.frozen (i := 0) rfl 1
  have S6 := (S3.store (i := 0) rfl 0 (.slice B ns.length c)).store (i := 0) rfl 1 (.int .i64 b)
  have j0 := S6.cell (i := 0) rfl (o := 0) rfl
  have j1 := S6.cell (i := 0) rfl (o := 1) rfl
  have hne : ∀ a, B = some a → a.block ≠ w.heap.size := fun a ha => by have := hfr a ha; omega
  have hN3 := Lib.hid ((hN.set hne 0 (.slice B ns.length c)).set hne 1 (.int .i64 b))
  have hfr2 := Lib.hid (fun a (ha : B = some a) => show w.heap.size ≤ a.block by have := hfr a ha; omega)
  have hB := S6.below
  clear S0 S3 S6 hN hfr hne hc1 hb3 hsz
  go_wp2_with fail
  exact bodyPost_ret (v := .tuple #[.int .i64 vars, .agg #[.slice B ns.length c, .int .i64 b]]) (by simp [results, Try.results12, go_sem, j0, j1]) rfl ⟨vars, b, ns, B, c, hv0, hv1, hl, rfl, hN3.out, hfr2.out, hB⟩

set_option maxRecDepth 100000 in
set_option maxHeartbeats 8000000 in
theorem drawAddPlanes_any (ca : Option Addr) (cl cc : Nat) (w : World) (hc : CodeOk w ca cl) (hs : cl ≤ 65536) :
    Calls Try.prog 5 #[.slice ca cl cc] w fun e w' => ∃ (vars b b' : Int) (ns ns' : List Int) (B B' : Option Addr) (c c' : Nat), -1 ≤ vars ∧ vars ≤ 13 ∧ ns.length ≤ 14 ∧ ns'.length ≤ 14 ∧ e = .returned (.tuple #[.int .i64 vars, .agg #[.slice B ns.length c, .int .i64 b], .agg #[.slice B' ns'.length c', .int .i64 b']]) ∧ IntsAt w' B ns ∧ IntsAt w' B' ns' ∧ Below w.heap.size w w' := by
  have S0 := (((Sp.start w).alloc_box #[.slice none 0 0, .int .i64 0] 26).alloc_box #[.slice none 0 0, .int .i64 0] 26).cur_made ca cl cc
  simp only [World.size_alloc] at S0
  obtain ⟨hi, hk⟩ := S0.cur (A' := 4) (i := 0) rfl hc hs
  replace hk := Lib.hid hk
  replace hi := Lib.hid hi
  clear S0
  go_enter Try.func5, Try.ntmps5
  go_wp2_with fail
  refine (cur_vars6 0 (w.heap.size + 1 + 1) ca cl cc _ hi.out (by omega)).mono ?_
  rintro e w1 ⟨_, ⟨vars, hv0, hv1, rfl⟩, rfl, hi1, hc1⟩
  have S1 := hk.out w1 hi1 hc1
  obtain ⟨hi2, hk2⟩ := S1.cur (A' := 204) (i := 0) rfl hc hs
  have hs1 := hi2.lt
  replace hk2 := Lib.hid hk2
  replace hi2 := Lib.hid hi2
  clear hk hi hi1 hc1 S1
  go_wp2_with fail
  refine (cur_plane vars ⟨hv0, hv1⟩ 4 (w.heap.size + 1 + 1) ca cl cc _ hi2.out (by omega)).mono ?_
  rintro e w3 ⟨B, c, ns, b, rfl, hl, hb, hN, hfr, hi3, hc3⟩
  have S3 := hk2.out w3 hi3 hc3
  clear hk2 hi2 hi3 hc3
  have hs3 := (S3.cur (A' := 404) (i := 0) rfl hc hs).1.lt
  obtain ⟨hi4, hk4⟩ := S3.cur (A' := 404) (i := 0) rfl hc hs
  replace hk4 := Lib.hid hk4
  replace hi4 := Lib.hid hi4
  have hlt1 := (S3.box (i := 1) rfl).2.1
  replace hN := Lib.hid hN
  replace hfr := Lib.hid hfr
  clear S3
  go_wp2_with fail
  refine (cur_plane vars ⟨hv0, hv1⟩ 204 (w.heap.size + 1 + 1) ca cl cc _ hi4.out (by omega)).mono ?_
  rintro e w4 ⟨B', c', ns', b', rfl, hl', hb', hN', hfr', hi5, hc5⟩
  have S5 := hk4.out w4 hi5 hc5
  have hN2 := hN.out.chg hc5 (fun a ha => by have := hfr.out a ha; simp; omega)
  have e0 := S5.cell (i := 2) rfl (o := 0) rfl
  have e1 := S5.cell (i := 2) rfl (o := 1) rfl
  have f0 := S5.frozen (i := 2) rfl 0
  have f1 := S5.frozen (i := 2) rfl 1
  have S6 := (S5.store (i := 2) rfl 0 (.slice B ns.length c)).store (i := 2) rfl 1 (.int .i64 b)
  have d0 := S6.cell (i := 1) rfl (o := 0) rfl
  have d1 := S6.cell (i := 1) rfl (o := 1) rfl
  have q0 := S6.frozen (i := 1) rfl 0
  have q1 := S6.frozen (i := 1) rfl 1
  have S7 := (S6.store (i := 1) rfl 0 (.slice B' ns'.length c')).store (i := 1) rfl 1 (.int .i64 b')
  have j0 := S7.cell (i := 2) rfl (o := 0) rfl
  have j1 := S7.cell (i := 2) rfl (o := 1) rfl
  have k0 := S7.cell (i := 1) rfl (o := 0) rfl
  have k1 := S7.cell (i := 1) rfl (o := 1) rfl
  have hne : ∀ a, B = some a → a.block ≠ w.heap.size := fun a ha => by have := hfr.out a ha; omega
  have hne1 : ∀ a, B = some a → a.block ≠ w.heap.size + 1 := fun a ha => by have := hfr.out a ha; omega
  have hne' : ∀ a, B' = some a → a.block ≠ w.heap.size := fun a ha => by have := hfr' a ha; omega
  have hne1' : ∀ a, B' = some a → a.block ≠ w.heap.size + 1 := fun a ha => by have := hfr' a ha; omega
  have hN3 := Lib.hid ((((hN2.set hne 0 (.slice B ns.length c)).set hne 1 (.int .i64 b)).set hne1 0 (.slice B' ns'.length c')).set hne1 1 (.int .i64 b'))
  have hN3' := Lib.hid ((((hN'.set hne' 0 (.slice B ns.length c)).set hne' 1 (.int .i64 b)).set hne1' 0 (.slice B' ns'.length c')).set hne1' 1 (.int .i64 b'))
  have hB := S7.below
  clear S5 S6 S7 hN2 hN' hN hfr hfr' hne hne1 hne' hne1' hk4 hi4 hi5 hc5
  go_wp2_with fail
  exact bodyPost_ret (v := .tuple #[.int .i64 vars, .agg #[.slice B ns.length c, .int .i64 b], .agg #[.slice B' ns'.length c', .int .i64 b']]) (by simp [results, Try.results5, go_sem, j0, j1, k0, k1]) rfl ⟨vars, b, b', ns, ns', B, B', c, c', hv0, hv1, hl, hl', rfl, hN3.out, hN3'.out, hB⟩

set_option maxRecDepth 100000 in
set_option maxHeartbeats 8000000 in
theorem drawDividePlane_any (ca : Option Addr) (cl cc : Nat) (w : World) (hc : CodeOk w ca cl) (hs : cl ≤ 65536) :
    Calls Try.prog 9 #[.slice ca cl cc] w fun e w' => ∃ (vars b k : Int) (ns : List Int) (B : Option Addr) (c : Nat), -1 ≤ vars ∧ vars ≤ 13 ∧ ns.length ≤ 14 ∧ -2 ≤ k ∧ k ≤ 1001 ∧ e = .returned (.tuple #[.int .i64 vars, .agg #[.slice B ns.length c, .int .i64 b], .int .i64 k]) ∧ IntsAt w' B ns ∧ Below w.heap.size w w' := by
  have S0 := ((Sp.start w).alloc_box #[.slice none 0 0, .int .i64 0] 26).cur_made ca cl cc
  simp only [World.size_alloc] at S0
  obtain ⟨hi, hk⟩ := S0.cur (A' := 4) (i := 0) rfl hc hs
  replace hk := Lib.hid hk
  replace hi := Lib.hid hi
  clear S0
  go_enter Try.func9, Try.ntmps9
  go_wp2_with fail
  refine (cur_vars6 0 (w.heap.size + 1) ca cl cc _ hi.out (by omega)).mono ?_
  rintro e w1 ⟨_, ⟨vars, hv0, hv1, rfl⟩, rfl, hi1, hc1⟩
  have S1 := hk.out w1 hi1 hc1
  obtain ⟨hi2, hk2⟩ := S1.cur (A' := 204) (i := 0) rfl hc hs
  have hs1 := hi2.lt
  replace hk2 := Lib.hid hk2
  replace hi2 := Lib.hid hi2
  clear hk hi hi1 hc1 S1
  go_wp2_with fail
  refine (cur_plane vars ⟨hv0, hv1⟩ 4 (w.heap.size + 1) ca cl cc _ hi2.out (by omega)).mono ?_
  rintro e w3 ⟨B, c, ns, b, rfl, hl, hb, hN, hfr, hi3, hc3⟩
  have S3 := hk2.out w3 hi3 hc3
  have hs3 : w.heap.size + 1 < w3.heap.size := (S3.cur (A' := 404) (i := 0) rfl hc hs).1.lt
  have S4 := S3.alloc_box #[.int .i64 2, .int .i64 2, .int .i64 3, .int .i64 4, .int .i64 1000, .int .i64 1, .int .i64 1001, .int .i64 (-2), .int .i64 0] 3
  have hfr2 : ∀ a, B = some a → w.heap.size < a.block ∧ a.block ≠ w.heap.size + 1 := fun a ha => by have := hfr a ha; omega
  replace hN := Lib.hid (hN.grow (bal (bb _) (.cells #[.int .i64 2, .int .i64 2, .int .i64 3, .int .i64 4, .int .i64 1000, .int .i64 1, .int .i64 1001, .int .i64 (-2), .int .i64 0] 3)))
  obtain ⟨hi4, hk4⟩ := S4.cur (A' := 210) (i := 1) rfl hc hs
  replace hk4 := Lib.hid hk4
  replace hi4 := Lib.hid hi4
  replace hfr2 := Lib.hid hfr2
  clear S3 S4 hk2 hi2 hi3 hc3 hfr
  go_wp2_with fail
  refine (cur_pick_at (lo := 0) (hi := 23) hi4.out (by omega) (by omega) (by omega) (by omega) (by omega)).mono ?_
  rintro e w4 ⟨_, ⟨x, hx0, hx1, rfl⟩, rfl, hi5, hc5⟩
  have S5 := hk4.out w4 (hi5.mono (by omega)) hc5
  have hN2 := hN.out.chg hc5 (fun a ha => by have := hfr2.out a ha; simp; omega)
  have hcell : ∀ j, j < 9 → ∃ x, (-2 : Int) ≤ x ∧ x ≤ 1001 ∧ w4.cell? ⟨w3.heap.size, 0 + j, none⟩ = some (.int .i64 x) := fun j hj => by
    rw [Nat.zero_add]
    match j, hj with
    | 0, _ => exact ⟨_, by decide, by decide, S5.cell (i := 0) rfl rfl⟩
    | 1, _ => exact ⟨_, by decide, by decide, S5.cell (i := 0) rfl rfl⟩
    | 2, _ => exact ⟨_, by decide, by decide, S5.cell (i := 0) rfl rfl⟩
    | 3, _ => exact ⟨_, by decide, by decide, S5.cell (i := 0) rfl rfl⟩
    | 4, _ => exact ⟨_, by decide, by decide, S5.cell (i := 0) rfl rfl⟩
    | 5, _ => exact ⟨_, by decide, by decide, S5.cell (i := 0) rfl rfl⟩
    | 6, _ => exact ⟨_, by decide, by decide, S5.cell (i := 0) rfl rfl⟩
    | 7, _ => exact ⟨_, by decide, by decide, S5.cell (i := 0) rfl rfl⟩
    | 8, _ => exact ⟨_, by decide, by decide, S5.cell (i := 0) rfl rfl⟩
  replace hcell := Lib.hid hcell
  obtain ⟨hi6, hk6⟩ := S5.cur (A' := 214) (i := 1) rfl hc hs
  replace hk6 := Lib.hid hk6
  have hlt4 : w3.heap.size < w4.heap.size := (S5.box (i := 0) rfl).2.1
  obtain ⟨k, hk', hkx⟩ : ∃ k : Nat, k ≤ 2 ∧ x.tdiv 11 = (k : Int) := ⟨(x / 11).toNat, by omega, by rw [Int.tdiv_eq_ediv_of_nonneg hx0]; omega⟩
  have hq : ∀ m, 7 ≤ m → m ≤ 9 → Calls Try.prog 30 #[.pointer (some ⟨w.heap.size + 1, 0, none⟩), .slice (some ⟨w3.heap.size, 0, none⟩) m 9] w4 (CurPost (IntIn (-2) 1001) (210 + 2) (w.heap.size + 1) ca cl cc w4) := fun m h1 h2 =>
    cur_among (-2) 1001 w3.heap.size 0 m 9 210 (w.heap.size + 1) ca cl cc w4 hi6 (by omega) (by omega) (by omega) (fun j hj => hcell.out j (by omega)) (by omega)
  replace hq := Lib.hid hq
  replace hN2 := Lib.hid hN2
  clear S5 hk4 hi4 hi5 hc5 hN hi6
  have hk3 : k = 0 ∨ k = 1 ∨ k = 2 := by omega
  rcases hk3 with rfl | rfl | rfl
  all_goals
    go_wp2_with fail
    refine (hq.out _ (by decide) (by decide)).mono ?_
    rintro e w5 ⟨_, ⟨z, hz0, hz1, rfl⟩, rfl, hi7, hc7⟩
    have S7 := hk6.out w5 (hi7.mono (by omega)) hc7
    have hN4 := hN2.out.chg hc7 (fun a ha => by have := hfr2.out a ha; simp; omega)
    have e0 := S7.cell (i := 2) rfl (o := 0) rfl
    have e1 := S7.cell (i := 2) rfl (o := 1) rfl
    have f0 := S7.frozen (i := 2) rfl 0
    have f1 := S7.frozen (i := 2) rfl 1
    have S8 := (S7.store (i := 2) rfl 0 (.slice B ns.length c)).store (i := 2) rfl 1 (.int .i64 b)
    have j0 := S8.cell (i := 2) rfl (o := 0) rfl
    have j1 := S8.cell (i := 2) rfl (o := 1) rfl
    have hne : ∀ a, B = some a → a.block ≠ w.heap.size := fun a ha => by have := hfr2.out a ha; omega
    have hN3 := Lib.hid ((hN4.set hne 0 (.slice B ns.length c)).set hne 1 (.int .i64 b))
    have hB := S8.below
    clear S7 S8 hN4 hN2 hq hk6 hi7 hc7 hcell hne
    go_wp2_with fail
    exact bodyPost_ret (v := .tuple #[.int .i64 vars, .agg #[.slice B ns.length c, .int .i64 b], .int .i64 z]) (by simp [results, Try.results9, go_sem, j0, j1]) rfl ⟨vars, b, z, ns, B, c, hv0, hv1, hl, hz0, hz1, rfl, hN3.out, hB⟩

set_option maxRecDepth 100000 in
set_option maxHeartbeats 8000000 in
theorem drawPlaneOfClause_any (ca : Option Addr) (cl cc : Nat) (w : World) (hc : CodeOk w ca cl) (hs : cl ≤ 65536) :
    Calls Try.prog 16 #[.slice ca cl cc] w fun e w' => ∃ (vars : Int) (c : List Int) (B : Option Addr) (cap : Nat) (F : List Nat), e = .returned (.tuple #[.int .i64 vars, .slice B c.length cap]) ∧ -1 ≤ vars ∧ vars ≤ 13 ∧ Ty.int.row true w' (.slice B c.length cap) c F ∧ F.Nodup ∧ c.length ≤ 5 ∧ Below w.heap.size w w' := by
  have S0 := (Sp.start w).cur_made ca cl cc
  obtain ⟨hi, hk⟩ := S0.cur (A' := 4) (i := 0) rfl hc hs
  replace hk := Lib.hid hk
  replace hi := Lib.hid hi
  clear S0
  go_enter Try.func16, Try.ntmps16
  go_wp2_with fail
  refine (cur_vars6 0 w.heap.size ca cl cc _ hi.out (by omega)).mono ?_
  rintro e w1 ⟨_, ⟨vars, hv0, hv1, rfl⟩, rfl, hi1, hc1⟩
  have S1 := hk.out w1 hi1 hc1
  obtain ⟨hi2, hk2⟩ := S1.cur (A' := 84) (i := 0) rfl hc hs
  have hs1 := hi2.lt
  replace hk2 := Lib.hid hk2
  replace hi2 := Lib.hid hi2
  clear hk hi hi1 hc1 S1
  go_wp2_with fail
  refine (cur_anyClause vars ⟨hv0, hv1⟩ 4 w.heap.size ca cl cc _ hi2.out (by omega)).mono ?_
  rintro e w3 ⟨v, c, rfl, ho, hl, hI, hi3, hc3⟩
  have S3 := hk2.out w3 hi3 hc3
  obtain ⟨B, cap, rfl⟩ := own_slice ho
  obtain ⟨F, hr, hF, -⟩ := own_row ho hI
  have hB := S3.below
  replace hr := Lib.hid hr
  replace hF := Lib.hid hF
  clear S3 hk2 hi2 hi3 hc3 ho hI
  go_wp2_with fail
  go_ret2
  exact ⟨vars, c, B, cap, F, rfl, hv0, hv1, hr.out, hF.out, hl, hB⟩
end Go.Proofs.Ytcdgpekefiplnaa
