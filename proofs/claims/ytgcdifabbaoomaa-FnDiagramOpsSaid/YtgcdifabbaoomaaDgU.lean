/- Contracts: the inputs of the law of diagrams, drawn. -/
import Derived.Test.YtgcdifabbaoomaaDgT
namespace Go.Proofs.Ytgcdifabbaoomaa
open Go.RowKit

theorem NdAt.chg {F : List Nat} {w w' : World} {A : Option Addr} {ns : List Nd} (h : NdAt w A ns) (hc : Chg F w w') (hF : ∀ a, A = some a → a.block ∉ F) : NdAt w' A ns := by
  refine ⟨fun j hj => ?_, h.ok⟩
  obtain ⟨b, off, e, h1, h2, h3⟩ := h.at_ j hj
  have hb := hF _ e
  exact ⟨b, off, e, hc.cell h1 hb, hc.cell h2 hb, hc.cell h3 hb⟩
section
variable {w0 w W : World} {ps : List Asn} {g cl cc : Nat} {ca : Option Addr}
theorem Sp.alloc_cur (h : Sp w0 w ps) (ca : Option Addr) (cl cc : Nat) : Sp w0 (w.alloc (.cells #[.slice ca cl cc, .int .i64 0, .int .u64 0] 60)) (CurA 0 w.heap.size ca cl cc :: ps) :=
  h.new (bal (bb _) _) (F := [w.heap.size]) ⟨rfl, 0, 0, heap_alloc_new w _, Nat.le_refl 0, Int.le_refl 0, by omega⟩ (by simp)
end

set_option maxRecDepth 100000 in
set_option maxHeartbeats 8000000 in
theorem drawAnd_any (ca : Option Addr) (cl cc : Nat) (w : World) (hc : CodeOk w ca cl) (hs : cl ≤ 65536) :
    Calls Try.prog 6 #[.slice ca cl cc] w fun e w' => ∃ (vars r r' : Int) (ns ns' : List Nd) (B B' : Option Addr) (c c' : Nat), -1 ≤ vars ∧ vars ≤ 7 ∧ ns.length ≤ 64 ∧ ns'.length ≤ 64 ∧ e = .returned (.tuple #[.int .i64 vars, dgV r (.slice B ns.length c), dgV r' (.slice B' ns'.length c')]) ∧ NdAt w' B ns ∧ NdAt w' B' ns' ∧ Below w.heap.size w w' := by
  have S0 := (((Sp.start w).alloc_box #[.int .i64 0, .slice none 0 0] 26).alloc_box #[.int .i64 0, .slice none 0 0] 26).alloc_cur ca cl cc
  simp only [World.size_alloc] at S0
  obtain ⟨hi, hk⟩ := S0.cur (A' := 4) (i := 0) rfl hc hs
  replace hk := Lib.hid hk
  replace hi := Lib.hid hi
  clear S0
  go_enter Try.func6, Try.ntmps6
  go_wp2_with fail
  refine (cur_vars26 0 (w.heap.size + 1 + 1) ca cl cc _ hi.out (by omega)).mono ?_
  rintro e w1 ⟨_, ⟨vars, hv0, hv1, rfl⟩, rfl, hi1, hc1⟩
  have S1 := hk.out w1 hi1 hc1
  obtain ⟨hi2, hk2⟩ := S1.cur (A' := 1004) (i := 0) rfl hc hs
  have hs1 := hi2.lt
  replace hk2 := Lib.hid hk2
  replace hi2 := Lib.hid hi2
  clear hk hi hi1 hc1 S1
  have hvw : IntKind.i64.wrap (vars + 1) = vars + 1 := IntWalk.i64_in _ (by omega)
  go_wp2_with fail
  refine (cur_diagram vars ⟨hv0, hv1⟩ 4 (w.heap.size + 1 + 1) ca cl cc _ hi2.out (by omega)).mono ?_
  rintro e w3 ⟨r, ns, B, c, rfl, hr, hl, hN, hfr, hi3, hc3⟩
  have S3 := hk2.out w3 hi3 hc3
  clear hk2 hi2 hi3 hc3
  have hs3 := (S3.cur (A' := 2004) (i := 0) rfl hc hs).1.lt
  obtain ⟨hi4, hk4⟩ := S3.cur (A' := 2004) (i := 0) rfl hc hs
  replace hk4 := Lib.hid hk4
  replace hi4 := Lib.hid hi4
  have hlt1 := (S3.box (i := 1) rfl).2.1
  replace hN := Lib.hid hN
  replace hfr := Lib.hid hfr
  clear S3
  go_wp2_with fail
  refine (cur_diagram vars ⟨hv0, hv1⟩ 1004 (w.heap.size + 1 + 1) ca cl cc _ hi4.out (by omega)).mono ?_
  rintro e w4 ⟨r', ns', B', c', rfl, hr', hl', hN', hfr', hi5, hc5⟩
  have S5 := hk4.out w4 hi5 hc5
  have hN2 := hN.out.chg hc5 (fun a ha => by have := hfr.out a ha; simp; omega)
  have e0 := S5.cell (i := 2) rfl (o := 0) rfl
  have e1 := S5.cell (i := 2) rfl (o := 1) rfl
  have f0 := S5.frozen (i := 2) rfl 0
  have f1 := S5.frozen (i := 2) rfl 1
  have S6 := (S5.store (i := 2) rfl 0 (.int .i64 r)).store (i := 2) rfl 1 (.slice B ns.length c)
  have d0 := S6.cell (i := 1) rfl (o := 0) rfl
  have d1 := S6.cell (i := 1) rfl (o := 1) rfl
  have q0 := S6.frozen (i := 1) rfl 0
  have q1 := S6.frozen (i := 1) rfl 1
  have S7 := (S6.store (i := 1) rfl 0 (.int .i64 r')).store (i := 1) rfl 1 (.slice B' ns'.length c')
  have j0 := S7.cell (i := 2) rfl (o := 0) rfl
  have j1 := S7.cell (i := 2) rfl (o := 1) rfl
  have k0 := S7.cell (i := 1) rfl (o := 0) rfl
  have k1 := S7.cell (i := 1) rfl (o := 1) rfl
  have hne : ∀ a, B = some a → a.block ≠ w.heap.size := fun a ha => by have := hfr.out a ha; omega
  have hne1 : ∀ a, B = some a → a.block ≠ w.heap.size + 1 := fun a ha => by have := hfr.out a ha; omega
  have hne' : ∀ a, B' = some a → a.block ≠ w.heap.size := fun a ha => by have := hfr' a ha; omega
  have hne1' : ∀ a, B' = some a → a.block ≠ w.heap.size + 1 := fun a ha => by have := hfr' a ha; omega
  have hN3 := Lib.hid ((((hN2.set hne 0 (.int .i64 r)).set hne 1 (.slice B ns.length c)).set hne1 0 (.int .i64 r')).set hne1 1 (.slice B' ns'.length c'))
  have hN3' := Lib.hid ((((hN'.set hne' 0 (.int .i64 r)).set hne' 1 (.slice B ns.length c)).set hne1' 0 (.int .i64 r')).set hne1' 1 (.slice B' ns'.length c'))
  have hB := S7.below
  clear S5 S6 S7 hN2 hN' hN hfr hfr' hne hne1 hne' hne1' hk4 hi4 hi5 hc5
  go_wp2_with fail
  exact bodyPost_ret (v := .tuple #[.int .i64 vars, .agg #[.int .i64 r, .slice B ns.length c], .agg #[.int .i64 r', .slice B' ns'.length c']]) (by simp [results, Try.results6, go_sem, j0, j1, k0, k1]) rfl ⟨vars, r, r', ns, ns', B, B', c, c', hv0, hv1, hl, hl', rfl, hN3.out, hN3'.out, hB⟩

set_option maxRecDepth 100000 in
set_option maxHeartbeats 8000000 in
theorem drawForget_any (ca : Option Addr) (cl cc : Nat) (w : World) (hc : CodeOk w ca cl) (hs : cl ≤ 65536) :
    Calls Try.prog 14 #[.slice ca cl cc] w fun e w' => ∃ (vars r l : Int) (ns : List Nd) (B : Option Addr) (c : Nat), -1 ≤ vars ∧ vars ≤ 7 ∧ -8 ≤ l ∧ l ≤ 8 ∧ ns.length ≤ 64 ∧ e = .returned (.tuple #[.int .i64 vars, dgV r (.slice B ns.length c), .int .i64 l]) ∧ NdAt w' B ns ∧ Below w.heap.size w w' := by
  have S0 := ((Sp.start w).alloc_box #[.int .i64 0, .slice none 0 0] 26).alloc_cur ca cl cc
  simp only [World.size_alloc] at S0
  obtain ⟨hi, hk⟩ := S0.cur (A' := 4) (i := 0) rfl hc hs
  replace hk := Lib.hid hk
  replace hi := Lib.hid hi
  clear S0
  go_enter Try.func14, Try.ntmps14
  go_wp2_with fail
  refine (cur_vars26 0 (w.heap.size + 1) ca cl cc _ hi.out (by omega)).mono ?_
  rintro e w1 ⟨_, ⟨vars, hv0, hv1, rfl⟩, rfl, hi1, hc1⟩
  have S1 := hk.out w1 hi1 hc1
  obtain ⟨hi2, hk2⟩ := S1.cur (A' := 1004) (i := 0) rfl hc hs
  have hs1 := hi2.lt
  replace hk2 := Lib.hid hk2
  replace hi2 := Lib.hid hi2
  clear hk hi hi1 hc1 S1
  have hvw : IntKind.i64.wrap (vars + 1) = vars + 1 := IntWalk.i64_in _ (by omega)
  go_wp2_with fail
  refine (cur_diagram vars ⟨hv0, hv1⟩ 4 (w.heap.size + 1) ca cl cc _ hi2.out (by omega)).mono ?_
  rintro e w3 ⟨r, ns, B, c, rfl, hr, hl, hN, hfr, hi3, hc3⟩
  have S3 := hk2.out w3 hi3 hc3
  clear hk2 hi2 hi3 hc3
  have S4 := S3.alloc (.cells #[.int .i64 1, .int .i64 2, .int .i64 3, .int .i64 1, .int .i64 0, .int .i64 (vars + 1)] 3)
  obtain ⟨hi4, hk4⟩ := S4.cur (A' := 1020) (i := 0) rfl hc hs
  have hs3 := (S3.cur (A' := 1020) (i := 0) rfl hc hs).1.lt
  replace hk4 := Lib.hid hk4
  replace hi4 := Lib.hid (hi4.mono (show 1004 ≤ 1012 by omega))
  have hlt1 := (S3.box (i := 1) rfl).2.1
  replace hN := Lib.hid (hN.grow (bal (bb _) (.cells #[.int .i64 1, .int .i64 2, .int .i64 3, .int .i64 1, .int .i64 0, .int .i64 (vars + 1)] 3)))
  replace hfr := Lib.hid hfr
  clear S3 S4
  go_wp2_with fail
  refine (cur_among 0 8 w3.heap.size 0 6 6 1012 (w.heap.size + 1) ca cl cc _ hi4.out (by omega) (by decide) (by decide) (ints_new rfl fun j hj => ?_) (by omega)).mono ?_
  · match j, hj with
    | 0, _ => exact ⟨_, rfl, by decide, by decide⟩
    | 1, _ => exact ⟨_, rfl, by decide, by decide⟩
    | 2, _ => exact ⟨_, rfl, by decide, by decide⟩
    | 3, _ => exact ⟨_, rfl, by decide, by decide⟩
    | 4, _ => exact ⟨_, rfl, by decide, by decide⟩
    | 5, _ => exact ⟨_, rfl, by omega, by omega⟩
  rintro e w4 ⟨_, ⟨l, hl0, hl1, rfl⟩, rfl, hi5, hc5⟩
  have S5 := hk4.out w4 (hi5.mono (by omega)) hc5
  have hN2 := hN.out.chg hc5 (fun a ha => by have := hfr.out a ha; simp; omega)
  have e0 := S5.cell (i := 1) rfl (o := 0) rfl
  have e1 := S5.cell (i := 1) rfl (o := 1) rfl
  have f0 := S5.frozen (i := 1) rfl 0
  have f1 := S5.frozen (i := 1) rfl 1
  have S6 := (S5.store (i := 1) rfl 0 (.int .i64 r)).store (i := 1) rfl 1 (.slice B ns.length c)
  have j0 := S6.cell (i := 1) rfl (o := 0) rfl
  have j1 := S6.cell (i := 1) rfl (o := 1) rfl
  have hne : ∀ a, B = some a → a.block ≠ w.heap.size := fun a ha => by have := hfr.out a ha; omega
  have hN3 := Lib.hid ((hN2.set hne 0 (.int .i64 r)).set hne 1 (.slice B ns.length c))
  have hB := S6.below
  clear S5 S6 hN2 hN hfr hne hk4 hi4 hi5 hc5
  go_wp2_with fail
  exact bodyPost_ret (v := .tuple #[.int .i64 vars, .agg #[.int .i64 r, .slice B ns.length c], .int .i64 l]) (by simp [results, Try.results14, go_sem, j0, j1]) rfl ⟨vars, r, l, ns, B, c, hv0, hv1, by omega, by omega, hl, rfl, hN3.out, hB⟩

set_option maxRecDepth 100000 in
set_option maxHeartbeats 8000000 in
theorem drawSet_any (ca : Option Addr) (cl cc : Nat) (w : World) (hc : CodeOk w ca cl) (hs : cl ≤ 65536) :
    Calls Try.prog 18 #[.slice ca cl cc] w fun e w' => ∃ (vars r l : Int) (ns : List Nd) (B : Option Addr) (c : Nat), -1 ≤ vars ∧ vars ≤ 7 ∧ -8 ≤ l ∧ l ≤ 8 ∧ ns.length ≤ 64 ∧ e = .returned (.tuple #[.int .i64 vars, dgV r (.slice B ns.length c), .int .i64 l]) ∧ NdAt w' B ns ∧ Below w.heap.size w w' := by
  have S0 := ((Sp.start w).alloc_box #[.int .i64 0, .slice none 0 0] 26).alloc_cur ca cl cc
  simp only [World.size_alloc] at S0
  obtain ⟨hi, hk⟩ := S0.cur (A' := 4) (i := 0) rfl hc hs
  replace hk := Lib.hid hk
  replace hi := Lib.hid hi
  clear S0
  go_enter Try.func18, Try.ntmps18
  go_wp2_with fail
  refine (cur_vars26 0 (w.heap.size + 1) ca cl cc _ hi.out (by omega)).mono ?_
  rintro e w1 ⟨_, ⟨vars, hv0, hv1, rfl⟩, rfl, hi1, hc1⟩
  have S1 := hk.out w1 hi1 hc1
  obtain ⟨hi2, hk2⟩ := S1.cur (A' := 1004) (i := 0) rfl hc hs
  have hs1 := hi2.lt
  replace hk2 := Lib.hid hk2
  replace hi2 := Lib.hid hi2
  clear hk hi hi1 hc1 S1
  have hvw : IntKind.i64.wrap (vars + 1) = vars + 1 := IntWalk.i64_in _ (by omega)
  go_wp2_with fail
  refine (cur_diagram vars ⟨hv0, hv1⟩ 4 (w.heap.size + 1) ca cl cc _ hi2.out (by omega)).mono ?_
  rintro e w3 ⟨r, ns, B, c, rfl, hr, hl, hN, hfr, hi3, hc3⟩
  have S3 := hk2.out w3 hi3 hc3
  clear hk2 hi2 hi3 hc3
  have hs3 := (S3.cur (A' := 1020) (i := 0) rfl hc hs).1.lt
  obtain ⟨hi4, hk4⟩ := S3.cur (A' := 1012) (i := 0) rfl hc hs
  replace hk4 := Lib.hid hk4
  replace hi4 := Lib.hid hi4
  have hlt1 := (S3.box (i := 1) rfl).2.1
  replace hN := Lib.hid hN
  replace hfr := Lib.hid hfr
  clear S3
  go_wp2_with fail
  refine (cur_lit vars ⟨hv0, hv1⟩ 1004 (w.heap.size + 1) ca cl cc _ hi4.out (by omega)).mono ?_
  rintro e w4 ⟨_, ⟨l, hl0, hl1, rfl⟩, rfl, hi5, hc5⟩
  have S5 := hk4.out w4 (hi5.mono (by omega)) hc5
  have hN2 := hN.out.chg hc5 (fun a ha => by have := hfr.out a ha; simp; omega)
  have e0 := S5.cell (i := 1) rfl (o := 0) rfl
  have e1 := S5.cell (i := 1) rfl (o := 1) rfl
  have f0 := S5.frozen (i := 1) rfl 0
  have f1 := S5.frozen (i := 1) rfl 1
  have S6 := (S5.store (i := 1) rfl 0 (.int .i64 r)).store (i := 1) rfl 1 (.slice B ns.length c)
  have j0 := S6.cell (i := 1) rfl (o := 0) rfl
  have j1 := S6.cell (i := 1) rfl (o := 1) rfl
  have hne : ∀ a, B = some a → a.block ≠ w.heap.size := fun a ha => by have := hfr.out a ha; omega
  have hN3 := Lib.hid ((hN2.set hne 0 (.int .i64 r)).set hne 1 (.slice B ns.length c))
  have hB := S6.below
  clear S5 S6 hN2 hN hfr hne hk4 hi4 hi5 hc5
  go_wp2_with fail
  exact bodyPost_ret (v := .tuple #[.int .i64 vars, .agg #[.int .i64 r, .slice B ns.length c], .int .i64 l]) (by simp [results, Try.results18, go_sem, j0, j1]) rfl ⟨vars, r, l, ns, B, c, hv0, hv1, by omega, by omega, hl, rfl, hN3.out, hB⟩
end Go.Proofs.Ytgcdifabbaoomaa
