/- The walks of FnExactSyncLog and FnExactRecoverLog. -/
import Derived.Test.YtfcekfomhpmgpaaDoorLogI
namespace Go.Proofs.YtfcekfomhpmgpaaDoor
open Go.RowKit

set_option maxHeartbeats 2000000 in
theorem FnExactSyncLog_walk (d p : ByteArray) (c : Int) (a : Addr) (w : World) (hE : EnvE a w) (hd : d.size ≤ 9223372036854775807) (hp : p.size ≤ 9223372036854775807) :
    Calls Tryd.prog 7 #[.agg #[.string d, .string p, .int .i64 c]] w fun e w' => e = .returned (.bool true) ∧ Below w.heap.size w w' := by
  have hEH := Lib.hid hE
  clear hE
  by_cases hbig : (1048576 : Int) < d.size + p.size
  · go_enter Tryd.func7, Tryd.ntmps7
    go_wp2_with fail
    refine (szLog_any _ _ _ _ _ (by omega) (by omega) hd hp).mono ?_
    rintro e w1 ⟨rfl, hb1⟩
    rw [if_pos hbig]
    go_wp2_with fail
    go_ret
    exact ⟨rfl, (by repeat (first | exact bb _ | assumption | refine bal ?_ _ | refine bdr ?_ | refine bdn ?_ _ | refine bst ?_ (by simp <;> omega) _ | refine btr ?_ (by assumption)))⟩
  · go_enter Tryd.func7, Tryd.ntmps7
    go_wp2_with fail
    refine (szLog_any _ _ _ _ _ (by omega) (by omega) hd hp).mono ?_
    rintro e w1 ⟨rfl, hb1⟩
    rw [if_neg (by omega)]
    have hB1 : Below w.heap.size w w1 := (by repeat (first | exact bb _ | assumption | refine bal ?_ _ | refine bdr ?_ | refine bdn ?_ _ | refine bst ?_ (by simp <;> omega) _ | refine btr ?_ (by assumption)))
    obtain ⟨hc1, hf1⟩ := bcell hb1
    have hs1 : w.heap.size < w1.heap.size := by have := hb1.size; simp at this; omega
    go_wp2_with fail
    refine (toLog_any _ _ _ _).mono ?_
    rintro e w2 ⟨rfl, hb2⟩
    have hB2 := btr hB1 hb2
    obtain ⟨hc2, hf2⟩ := bcell hb2
    have hs2 : w.heap.size < w2.heap.size := Nat.lt_of_lt_of_le hs1 hb2.size
    go_wp2_with fail
    refine (specSyncLog_any d p c _ (by omega) (by omega)).mono ?_
    rintro e w3 ⟨rfl, hb3⟩
    have hB3 := btr hB2 hb3
    obtain ⟨hc3, hf3⟩ := bcell hb3
    have hs3 : w.heap.size < w3.heap.size := Nat.lt_of_lt_of_le hs2 hb3.size
    generalize hx : syncB (bl d) (bl p) c = x
    replace hx := (show Hid (syncB (bl d) (bl p) c = x) from hx)
    obtain ⟨x0, x1, x2⟩ := x
    have hs3' : w.heap.size < w3.heap.size + 1 := by omega
    go_wp2_with fail
    refine (toLog_any _ _ _ _).mono ?_
    rintro e w4 ⟨rfl, hb4⟩
    have hs4 : w3.heap.size < w4.heap.size := by have := hb4.size; simp at this; omega
    obtain ⟨hc4, hf4⟩ := bcell hb4
    have hB4 : Below w.heap.size w w4 := (by repeat (first | exact bb _ | assumption | refine bal ?_ _ | refine bdr ?_ | refine bdn ?_ _ | refine bst ?_ (by simp <;> omega) _ | refine btr ?_ (by assumption)))
    go_wp2_with fail
    refine (implSyncLog_any d p c a _ (hEH.out.grow hB4) (by omega) (by omega)).mono ?_
    rintro e w5 ⟨rfl, hb5⟩
    rw [hx.out]
    have hB5 := btr hB4 hb5
    obtain ⟨hc5, hf5⟩ := bcell hb5
    have hs5 : w3.heap.size < w5.heap.size := Nat.lt_of_lt_of_le hs4 hb5.size
    have hs5' : w3.heap.size < w5.heap.size + 1 := by omega
    go_wp2_with fail
    refine (eqLog_same _ _ _ _).mono ?_
    rintro e w6 ⟨rfl, hb6⟩
    go_wp2_with fail
    go_ret
    exact ⟨rfl, (by repeat (first | exact bb _ | assumption | refine bal ?_ _ | refine bdr ?_ | refine bdn ?_ _ | refine bst ?_ (by simp <;> omega) _ | refine btr ?_ (by assumption)))⟩

set_option maxHeartbeats 2000000 in
theorem FnExactRecoverLog_walk (s : ByteArray) (a : Addr) (w : World) (hE : EnvE a w) (hs : s.size ≤ 9223372036854775807) :
    Calls Tryd.prog 4 #[.string s] w fun e w' => e = .returned (.bool true) ∧ Below w.heap.size w w' := by
  have hEH := Lib.hid hE
  clear hE
  by_cases hbig : (1048576 : Int) < s.size
  · go_enter Tryd.func4, Tryd.ntmps4
    go_wp2_with fail
    go_ret
    exact ⟨rfl, (by repeat (first | exact bb _ | assumption | refine bal ?_ _ | refine bdr ?_ | refine bdn ?_ _ | refine bst ?_ (by simp <;> omega) _ | refine btr ?_ (by assumption)))⟩
  · have hsm : (s.size : Int) ≤ 1048576 := by omega
    go_enter Tryd.func4, Tryd.ntmps4
    go_wp2_with fail
    refine (specRecoverLog_any s _ (by omega)).mono ?_
    rintro e w3 ⟨rfl, hb3⟩
    have hB3 : Below w.heap.size w w3 := (by repeat (first | exact bb _ | assumption | refine bal ?_ _ | refine bdr ?_ | refine bdn ?_ _ | refine bst ?_ (by simp <;> omega) _ | refine btr ?_ (by assumption)))
    generalize hx : recovB (bl s) = x
    replace hx := (show Hid (recovB (bl s) = x) from hx)
    obtain ⟨x0, x1, x2, x3⟩ := x
    go_wp2_with fail
    refine (implRecoverLog_any s a _ (hEH.out.grow (by repeat (first | exact bb _ | assumption | refine bal ?_ _ | refine bdr ?_ | refine bdn ?_ _ | refine bst ?_ (by simp <;> omega) _ | refine btr ?_ (by assumption)))) (by omega)).mono ?_
    rintro e w5 ⟨rfl, hb5⟩
    rw [hx.out]
    obtain ⟨hc5, hf5⟩ := bcell hb5
    have hs5 : w3.heap.size < w5.heap.size := by have := hb5.size; simp at this; omega
    have hs5' : w3.heap.size < w5.heap.size + 1 := by omega
    go_wp2_with fail
    refine (eqLog_same _ _ _ _).mono ?_
    rintro e w6 ⟨rfl, hb6⟩
    go_wp2_with fail
    go_ret
    exact ⟨rfl, (by repeat (first | exact bb _ | assumption | refine bal ?_ _ | refine bdr ?_ | refine bdn ?_ _ | refine bst ?_ (by simp <;> omega) _ | refine btr ?_ (by assumption)))⟩
end Go.Proofs.YtfcekfomhpmgpaaDoor
