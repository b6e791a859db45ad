/- The walk of FnExactCrashLog. -/
import Derived.Test.YtfcekfomhpmgpaaDoorLogL
namespace Go.Proofs.YtfcekfomhpmgpaaDoor
open Go.RowKit

set_option maxRecDepth 100000 in
set_option maxHeartbeats 4000000 in
theorem FnExactCrashLog_walk (d p : ByteArray) (c keep : Int) (t : Bool) (a : Addr) (w : World) (hE : EnvE a w) (hd : d.size ≤ 9223372036854775807) (hp : p.size ≤ 9223372036854775807) :
    Calls Tryd.prog 6 #[.agg #[.string d, .string p, .int .i64 c], .int .i64 keep, .bool t] w fun e w' => e = .returned (.bool true) ∧ Below w.heap.size w w' := by
  have hEH := Lib.hid hE
  clear hE
  have S0 := (Sp.start w).alloc_box #[.string d, .string p, .int .i64 c] 36
  replace S0 := Lib.hid S0
  by_cases hbig : (1048576 : Int) < d.size + p.size
  · go_enter Tryd.func6, Tryd.ntmps6
    go_wp2_with fail
    refine (szLog_any _ _ _ _ _ (by omega) (by omega) hd hp).mono ?_
    rintro e w1 ⟨rfl, hb1⟩
    rw [if_pos hbig]
    have hB := (S0.out.grow hb1).below
    go_wp2_with fail
    go_ret
    exact ⟨rfl, hB⟩
  obtain ⟨r, hr⟩ : ∃ r, crashB (bl d) (bl p) c keep t = r := ⟨_, rfl⟩
  replace hr := Lib.hid hr
  obtain ⟨x, ok⟩ := r
  go_enter Tryd.func6, Tryd.ntmps6
  go_wp2_with fail
  refine (szLog_any _ _ _ _ _ (by omega) (by omega) hd hp).mono ?_
  rintro e w1 ⟨rfl, hb1⟩
  rw [if_neg (by omega)]
  have S1 := S0.out.grow hb1
  clear S0 hb1
  have c0 := S1.cell (i := 0) rfl (o := 0) rfl
  have c1 := S1.cell (i := 0) rfl (o := 1) rfl
  have c2 := S1.cell (i := 0) rfl (o := 2) rfl
  replace S1 := Lib.hid S1
  go_wp2_with fail
  refine (toLog_any _ _ _ _).mono ?_
  rintro e w2 ⟨rfl, hb2⟩
  have S2 := S1.out.grow hb2
  clear S1 hb2 c0 c1 c2
  replace S2 := Lib.hid S2
  go_wp2_with fail
  refine (specCrashLog_any d p c keep t _ (by omega) (by omega)).mono ?_
  rw [hr.out]
  rintro e w3 ⟨rfl, hb3⟩
  have S3 := S2.out.grow hb3
  clear S2 hb3
  have c0 := S3.cell (i := 0) rfl (o := 0) rfl
  have c1 := S3.cell (i := 0) rfl (o := 1) rfl
  have c2 := S3.cell (i := 0) rfl (o := 2) rfl
  replace S3 := Lib.hid S3
  go_wp2_with fail
  refine (toLog_any _ _ _ _).mono ?_
  rintro e w4 ⟨rfl, hb4⟩
  have S4 := S3.out.grow hb4
  clear S3 hb4 c0 c1 c2
  have hB4 := S4.below
  replace S4 := Lib.hid S4
  go_wp2_with fail
  refine (implCrashLog_any d p c keep t a _ (hEH.out.grow hB4) (by omega) (by omega)).mono ?_
  rw [hr.out]
  rintro e w5 ⟨rfl, hb5⟩
  have hB := btr hB4 hb5
  clear S4 hb5
  go_wp2_with fail
  go_ret
  exact ⟨rfl, hB⟩
end Go.Proofs.YtfcekfomhpmgpaaDoor
