/- Contracts: all models in order, in the program. -/
import Derived.Test.YtcdgpekefiplnaaTrB
namespace Go.Proofs.Ytcdgpekefiplnaa
open Go.RowKit

theorem pow12 {v : Nat} (hv : v ≤ 12) : wrap64 ((2 : Int) ^ v) = ((2 ^ v : Nat) : Int) ∧ 2 ^ v ≤ 4096 := by
  match v, hv with
  | 0, _ | 1, _ | 2, _ | 3, _ | 4, _ | 5, _ | 6, _ | 7, _ | 8, _ | 9, _ | 10, _ | 11, _ | 12, _ => exact ⟨by unfold wrap64; decide, by decide⟩

set_option maxRecDepth 100000 in
set_option maxHeartbeats 4000000 in
theorem models_any {g : FuncId} {cb : Array Value} (eg : Enter1 g) (n : Nat) (hn : n ≤ 12) (xss : List (List Int)) (hc : ∀ c ∈ xss, ClS c) (hl : xss.length ≤ 1000000) (A : Option Addr) (cap : Nat) (w : World)
    (F : List Nat) (hF : ∀ b ∈ F, b < w.heap.size) (P : Nat → World → Prop) (h0 : P 0 w) (hgrow : ∀ k w w', P k w → Below w.heap.size w w' → P k w') (hcls : ∀ k w, P k w → ClsAt w A xss)
    (hnot : ∀ k w, modT xss k = false → P k w → P (k + 1) w)
    (hstep : ∀ k w, k < 2 ^ n → modT xss k = true → P k w → Calls Try.prog g (#[.int .i64 k] ++ cb) w fun e w' => ∃ q : Bool, e = .returned (.bool q) ∧ Chg F w w' ∧ (if q then P (k + 1) w' else P (2 ^ n) w')) :
    Calls Try.prog 46 #[.agg #[.int .i64 n, .slice A xss.length cap], .func (.func g) #[] cb] w fun e w' => e = .returned (.tuple #[]) ∧ P (2 ^ n) w' := by
  unfold Enter1 at eg
  obtain ⟨hsh, hp⟩ := pow12 hn
  generalize 2 ^ n = N at *
  have c0 : (w.alloc (.cells #[.int .i64 n, .slice A xss.length cap] 48)).cell? ⟨w.heap.size, 0, none⟩ = some (.int .i64 n) := cell_of_row _ _ _ _ _ _ (heap_alloc_new w _)
  have c1 : (w.alloc (.cells #[.int .i64 n, .slice A xss.length cap] 48)).cell? ⟨w.heap.size, 1, none⟩ = some (.slice A xss.length cap) := cell_of_row _ _ _ _ _ _ (heap_alloc_new w _)
  have HP0 := Lib.hid (hgrow 0 w _ h0 (bal (bb w) (.cells #[.int .i64 n, .slice A xss.length cap] 48)))
  have hFF : w.heap.size ∉ F := fun h => by have := hF _ h; omega
  replace hgrow := Lib.hid hgrow
  replace hcls := Lib.hid hcls
  replace hnot := Lib.hid hnot
  replace hstep := Lib.hid hstep
  have hcc := Lib.hid hc
  replace hFF := Lib.hid hFF
  clear h0 hc hF
  go_enter Try.func46, Try.ntmps46
  go_wp2_with fail
  rw [hsh]
  go_loopw [4, 8] (fun _ i wr => ∃ k : Nat, k ≤ N ∧ i = .int .i64 k ∧ wr.cell? ⟨w.heap.size, 1, none⟩ = some (.slice A xss.length cap) ∧ Hid (P k wr)) (fun _ i _ => N - (intOf i).toNat)
  case atStart => exact ⟨0, Nat.zero_le _, rfl, c1, HP0⟩
  case round =>
    obtain ⟨k, hk, rfl, d1, HP⟩ := hrel
    clear HP0 c0 c1
    by_cases hlt : k < N
    · have hcall := Lib.hid (isModel_any xss hcc.out hl A cap k (Nat.lt_of_lt_of_le hlt (Nat.le_trans hp (by decide))) wr (hcls.out k wr HP.out))
      cases hq : modT xss k
      · rw [hq] at hcall
        go_wp2_with fail
        refine hcall.out.mono ?_
        rintro e w1 ⟨rfl, hb1⟩
        have HP2 := Lib.hid (hnot.out k w1 hq (hgrow.out k wr w1 HP.out hb1))
        have d2 := ((bcell hb1).1 _ _ (World.block_lt_of_cell? _ _ d1)).trans d1
        clear hcall hb1 HP d1
        go_wp2_with fail
        go_roundw
        case rel => exact ⟨k + 1, by omega, by go_num, d2, HP2⟩
        case measure => simp [intOf]; omega
      · rw [hq] at hcall
        go_wp2_with fail
        refine hcall.out.mono ?_
        rintro e w1 ⟨rfl, hb1⟩
        have hst := Lib.hid (hstep.out k w1 hlt hq (hgrow.out k wr w1 HP.out hb1))
        have d2 := ((bcell hb1).1 _ _ (World.block_lt_of_cell? _ _ d1)).trans d1
        clear hcall hb1 HP d1
        go_wp2_with fail
        refine hst.out.mono ?_
        rintro e w2 ⟨q, rfl, hch, hP2⟩
        have d3 := (World.cell?_of_block (a := ⟨w.heap.size, 1, none⟩) (hch.block _ (World.block_lt_of_cell? _ _ d2) hFF.out)).trans d2
        cases q
        · replace hP2 := Lib.hid hP2
          clear hst hch d2
          go_wp2_with fail
          have hP3 : P N w2 := hP2.out
          exact bodyPost_ret (v := .tuple #[]) (by simp [results, Try.results46, go_sem]) rfl ⟨rfl, hP3⟩
        · have HP2 : Hid (P (k + 1) w2) := hP2
          clear hst hch d2 hP2
          go_wp2_with fail
          go_roundw
          case rel => exact ⟨k + 1, by omega, by go_num, d3, HP2⟩
          case measure => simp [intOf]; omega
    · obtain rfl : k = N := by omega
      go_wp2_with fail
      exact bodyPost_end (v := .tuple #[]) (by simp [results, Try.results46, go_sem]) rfl ⟨rfl, HP.out⟩
end Go.Proofs.Ytcdgpekefiplnaa
