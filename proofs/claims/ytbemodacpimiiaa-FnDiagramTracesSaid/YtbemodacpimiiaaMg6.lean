/- Lemmas and contracts for a law, put together out of several texts: DgH. -/
import Derived.Test.YtbemodacpimiiaaMg3
/- Contracts: diagrams whose values are made of those of two others, in the program. -/
namespace Go.Proofs.Ytbemodacpimiiaa
open Go.RowKit


theorem and1_any (a b : Bool) (w : World) : Calls Try.prog 70 #[.bool a, .bool b] w fun e w' => e = .returned (.bool (a && b)) ∧ Below w.heap.size w w' := by
  go_enter Try.func70, Try.ntmps70
  cases a
  all_goals
    go_wp2_with fail
    go_ret
    exact ⟨rfl, bb _⟩

set_option maxRecDepth 100000 in
set_option maxHeartbeats 4000000 in
theorem pairAnd_any (r r' : Int) (A A' : Option Addr) (c c' : Nat) (ns ns' : List Nd) (bits b7 b5 b6 : Nat) (w : World) (hx : NdAt w A ns) (hy : NdAt w A' ns') (hl : ns.length ≤ 1000000) (hl' : ns'.length ≤ 1000000) (hw : WkN ns) (hw' : WkN ns')
    (h0 : 0 ≤ r) (h1 : r ≤ ns.length + 1) (h0' : 0 ≤ r') (h1' : r' ≤ ns'.length + 1) (hb : bits < 2 ^ 62)
    (k7 : w.cell? ⟨b7, 0, none⟩ = some (.func (.func 70) #[] #[])) (k5 : w.cell? ⟨b5, 0, none⟩ = some (.int .i64 r)) (k5' : w.cell? ⟨b5, 1, none⟩ = some (.slice A ns.length c))
    (k6 : w.cell? ⟨b6, 0, none⟩ = some (.int .i64 r')) (k6' : w.cell? ⟨b6, 1, none⟩ = some (.slice A' ns'.length c')) :
    Calls Try.prog 135 #[.int .i64 bits, .pointer (some ⟨b7, 0, none⟩), .pointer (some ⟨b5, 0, none⟩), .pointer (some ⟨b6, 0, none⟩)] w fun e w' => e = .returned (.bool ((fun x y : Bool => x && y) (valD r ns bits) (valD r' ns' bits))) ∧ Below w.heap.size w w' := by
  have m7 := cell_regrown k7
  have m5 := cell_regrown k5
  have m5' := cell_regrown k5'
  have m6 := cell_regrown k6
  have m6' := cell_regrown k6'
  have hc1 := Lib.hid (fun W (hb' : Below w.heap.size w W) => valueAt_any r bits A c ns W (hx.grow hb') hl hw h0 h1 hb)
  have hc2 := Lib.hid (fun W (hb' : Below w.heap.size w W) => valueAt_any r' bits A' c' ns' W (hy.grow hb') hl' hw' h0' h1' hb)
  clear k7 k5 k5' k6 k6' hx hy hw hw' hl hl' h0 h1 h0' h1' hb
  generalize valD r ns bits = x at *
  generalize valD r' ns' bits = y at *
  go_enter Try.func135, Try.ntmps135
  go_wp2_with fail
  refine wp_region_quiet_below (by kernel_rfl) (by kernel_rfl) ?_
  repeat (any_goals (go_big_quiet_step (first | (go_at_call 136; first | exact Calls.regrown_of (hc1.out _ (below_regrown _ _ _)) | exact Calls.regrown_of (hc2.out _ (below_regrown _ _ _))) | (go_at_call 70; exact Calls.regrown_of (and1_any _ _ _)))))
  refine wpQuiet_nil ?_
  rintro w1 ⟨p, rfl⟩
  have hB := below_regrown w p.d p.os
  go_wp2_with fail
  go_ret
  exact ⟨rfl, hB⟩

/- left out: the seat has no impl.OrDiagrams$1 -/

/- left out: the seat has no impl.OrDiagrams$1 -/

/- left out: the seat has no impl.NotDiagram$1 -/

/- left out: the seat has no impl.NotDiagram$1 -/

theorem pairAnd_ok : PairOk 70 (fun x y => x && y) := fun r r' A A' c c' ns ns' bits b7 b5 b6 w h1 h2 h3 h4 h5 h6 h7 h8 h9 h10 h11 h12 h13 h14 h15 h16 => pairAnd_any r r' A A' c c' ns ns' bits b7 b5 b6 w h1 h2 h3 h4 h5 h6 h7 h8 h9 h10 h11 h12 h13 h14 h15 h16

/- left out: the seat has no impl.OrDiagrams$1 -/

/- left out: the seat has no impl.NotDiagram$1 -/

end Go.Proofs.Ytbemodacpimiiaa
