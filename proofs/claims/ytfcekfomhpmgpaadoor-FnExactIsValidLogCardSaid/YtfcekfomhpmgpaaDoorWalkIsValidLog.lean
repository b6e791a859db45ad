/- The walk of FnExactIsValidLog. -/
import Derived.Test.YtfcekfomhpmgpaaDoorLogH
namespace Go.Proofs.YtfcekfomhpmgpaaDoor
open Go.RowKit

set_option maxHeartbeats 2000000 in
theorem FnExactIsValidLog_walk (d p : ByteArray) (c : Int) (a : Addr) (w : World) (hE : EnvE a w) (hd : d.size ≤ 9223372036854775807) (hp : p.size ≤ 9223372036854775807) :
    Calls Tryd.prog 5 #[.agg #[.string d, .string p, .int .i64 c]] w fun e w' => e = .returned (.bool true) ∧ Below w.heap.size w w' := by
  have hEH := Lib.hid hE
  clear hE
  by_cases hbig : (1048576 : Int) < d.size + p.size
  · go_enter Tryd.func5, Tryd.ntmps5
    go_wp2_with fail
    refine (szLog_any _ _ _ _ _ (by omega) (by omega) hd hp).mono ?_
    rintro e w1 ⟨rfl, hb1⟩
    rw [if_pos hbig]
    go_wp2_with fail
    go_ret
    exact ⟨rfl, (by repeat (first | exact bb _ | assumption | refine bal ?_ _ | refine bdr ?_ | refine bdn ?_ _ | refine bst ?_ (by simp <;> omega) _ | refine btr ?_ (by assumption)))⟩
  · go_enter Tryd.func5, Tryd.ntmps5
    go_wp2_with fail
    refine (szLog_any _ _ _ _ _ (by omega) (by omega) hd hp).mono ?_
    rintro e w1 ⟨rfl, hb1⟩
    rw [if_neg (by omega)]
    have hB1 : Below w.heap.size w w1 := (by repeat (first | exact bb _ | assumption | refine bal ?_ _ | refine bdr ?_ | refine bdn ?_ _ | refine bst ?_ (by simp <;> omega) _ | refine btr ?_ (by assumption)))
    obtain ⟨hc1, hf1⟩ := bcell hb1
    have hs1 : w.heap.size < w1.heap.size := by have := hb1.size; simp at this; omega
    go_wp2_with fail
    refine (toLog_any _ _ _ _).mono ?_
    rintro e w2 ⟨rfl, hb2⟩
    have hB2 := btr hB1 hb2
    obtain ⟨hc2, hf2⟩ := bcell hb2
    have hs2 : w.heap.size < w2.heap.size := Nat.lt_of_lt_of_le hs1 hb2.size
    go_wp2_with fail
    refine (specIsValidLog_any d p c _ (by omega) (by omega)).mono ?_
    rintro e w3 ⟨rfl, hb3⟩
    have hB3 := btr hB2 hb3
    obtain ⟨hc3, hf3⟩ := bcell hb3
    have hs3 : w.heap.size < w3.heap.size := Nat.lt_of_lt_of_le hs2 hb3.size
    go_wp2_with fail
    refine (toLog_any _ _ _ _).mono ?_
    rintro e w4 ⟨rfl, hb4⟩
    have hB4 := btr hB3 hb4
    go_wp2_with fail
    refine (implIsValidLog_any d p c a _ (hEH.out.grow hB4) (by omega) (by omega)).mono ?_
    rintro e w5 ⟨rfl, hb5⟩
    go_wp2_with fail
    go_ret
    exact ⟨rfl, btr hB4 hb5⟩
end Go.Proofs.YtfcekfomhpmgpaaDoor
