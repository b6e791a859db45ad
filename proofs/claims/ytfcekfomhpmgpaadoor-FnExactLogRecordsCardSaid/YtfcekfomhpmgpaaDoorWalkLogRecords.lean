/- The walk of FnExactLogRecords. -/
import Derived.Test.YtfcekfomhpmgpaaDoorLogI
import Derived.Test.YtfcekfomhpmgpaaDoorLogK
namespace Go.Proofs.YtfcekfomhpmgpaaDoor
open Go.RowKit

theorem recsB_len (d p : List UInt8) (c : Int) : (recsB d p c).length ≤ 60 := by
  unfold recsB
  split
  · exact (openB_len 60 _).1
  · simp

set_option maxRecDepth 100000 in
set_option maxHeartbeats 4000000 in
theorem FnExactLogRecords_walk (d p : ByteArray) (c : Int) (a : Addr) (w : World) (hE : EnvE a w) (hd : d.size ≤ 9223372036854775807) (hp : p.size ≤ 9223372036854775807) :
    Calls Tryd.prog 9 #[.agg #[.string d, .string p, .int .i64 c]] w fun e w' => e = .returned (.bool true) ∧ Below w.heap.size w w' := by
  have hEH := Lib.hid hE
  clear hE
  have S0 := (Sp.start w).alloc_box #[.string d, .string p, .int .i64 c] 36
  replace S0 := Lib.hid S0
  by_cases hbig : (1048576 : Int) < d.size + p.size
  · go_enter Tryd.func9, Tryd.ntmps9
    go_wp2_with fail
    refine (szLog_any _ _ _ _ _ (by omega) (by omega) hd hp).mono ?_
    rintro e w1 ⟨rfl, hb1⟩
    rw [if_pos hbig]
    have hB := (S0.out.grow hb1).below
    go_wp2_with fail
    go_ret
    exact ⟨rfl, hB⟩
  obtain ⟨rs, hrs⟩ : ∃ rs, recsB (bl d) (bl p) c = rs := ⟨_, rfl⟩
  obtain ⟨ok, hok⟩ : ∃ ok, validB (bl d) (bl p) c = ok := ⟨_, rfl⟩
  have hlen : rs.length ≤ 60 := by rw [← hrs]; exact recsB_len _ _ _
  have s1 : 1 + 2 * rs.length ≤ 1000000000 := by omega
  have s2 : ¬ ((1 + 2 * rs.length : Nat) : Int) < 0 := by omega
  replace hrs := Lib.hid hrs
  replace hok := Lib.hid hok
  go_enter Tryd.func9, Tryd.ntmps9
  go_wp2_with fail
  refine (szLog_any _ _ _ _ _ (by omega) (by omega) hd hp).mono ?_
  rintro e w1 ⟨rfl, hb1⟩
  rw [if_neg (by omega)]
  have S2 := S0.out.grow hb1
  clear S0 hb1
  replace S2 := Lib.hid S2
  have c_arg_0 := S2.out.cell (i := 0) rfl (o := 0) rfl
  have c_arg_1 := S2.out.cell (i := 0) rfl (o := 1) rfl
  have c_arg_2 := S2.out.cell (i := 0) rfl (o := 2) rfl
  go_wp2_with fail
  refine (toLog_any _ _ _ _).mono ?_
  rintro e w3 ⟨rfl, hb3⟩
  have S4 := S2.out.grow hb3
  clear c_arg_0 c_arg_1 c_arg_2
  clear S2 hb3
  replace S4 := Lib.hid S4
  go_wp2_with fail
  refine (specLogRecords_any d p c _ (by omega) (by omega)).mono ?_
  rw [hrs.out, hok.out]
  rintro e w5 ⟨v5, F5, rfl, hr5, hn5, hF5, hb5⟩
  obtain ⟨a_r, c_r, rfl, _, _⟩ := Ty.row_len hr5
  have S6 := S4.out.row_new hb5 hr5 hn5 hF5
  clear S4 hr5 hb5 hn5 hF5
  replace S6 := Lib.hid S6
  have c_arg_0 := S6.out.cell (i := 1) rfl (o := 0) rfl
  have c_arg_1 := S6.out.cell (i := 1) rfl (o := 1) rfl
  have c_arg_2 := S6.out.cell (i := 1) rfl (o := 2) rfl
  go_wp2_with fail
  refine (toLog_any _ _ _ _).mono ?_
  rintro e w7 ⟨rfl, hb7⟩
  have S8 := S6.out.grow hb7
  clear c_arg_0 c_arg_1 c_arg_2
  clear S6 hb7
  replace S8 := Lib.hid S8
  go_wp2_with fail
  refine (implLogRecords_any d p c a _ (hEH.out.grow S8.out.below) (by omega) (by omega)).mono ?_
  rw [hrs.out, hok.out]
  rintro e w9 ⟨v9, F9, rfl, hr9, hn9, hF9, hb9⟩
  obtain ⟨a_g, c_g, rfl, _, _⟩ := Ty.row_len hr9
  have S10 := S8.out.row_new hb9 hr9 hn9 hF9
  clear S8 hr9 hb9 hn9 hF9
  replace S10 := Lib.hid S10
  go_wp2_with fail
  obtain ⟨G11, g11⟩ := S10.out.row_at (i := 0) rfl
  obtain ⟨G12, g12⟩ := S10.out.row_at (i := 1) rfl
  refine (eqLogRecordS_same _ _ rs G11 G12 _ g11 g12).mono ?_
  clear g11 g12
  rintro e w13 ⟨rfl, hb13⟩
  have S14 := S10.out.grow hb13
  clear S10 hb13
  replace S14 := Lib.hid S14
  go_wp2_with fail
  obtain ⟨F15, hr15, hn15, hall15⟩ := S14.out.mark (i := 0) rfl
  refine (markLogRecordS_any _ 1 rs F15 _ hr15 (by decide) s1).mono ?_
  rintro e w15 ⟨rfl, hq15, hc15⟩
  have S16 := hall15 _ _ hq15 hc15
  clear S14 hr15 hn15 hall15 hq15 hc15
  replace S16 := Lib.hid S16
  go_wp2_with fail
  obtain ⟨G17, g17⟩ := S16.out.row_at (i := 0) rfl
  refine (heldLogRecordS_at g17 s1).mono ?_
  clear g17
  rintro e w18 ⟨rfl, hb18⟩
  have S19 := S16.out.grow hb18
  clear S16 hb18
  replace S19 := Lib.hid S19
  have c_arg_0 := S19.out.cell (i := 2) rfl (o := 0) rfl
  have c_arg_1 := S19.out.cell (i := 2) rfl (o := 1) rfl
  have c_arg_2 := S19.out.cell (i := 2) rfl (o := 2) rfl
  go_wp2_with fail
  refine (toLog_any _ _ _ _).mono ?_
  rintro e w20 ⟨rfl, hb20⟩
  have S21 := S19.out.grow hb20
  clear c_arg_0 c_arg_1 c_arg_2
  clear S19 hb20
  replace S21 := Lib.hid S21
  go_wp2_with fail
  refine (implLogRecords_any d p c a _ (hEH.out.grow S21.out.below) (by omega) (by omega)).mono ?_
  rw [hrs.out, hok.out]
  rintro e w22 ⟨v22, F22, rfl, hr22, hn22, hF22, hb22⟩
  obtain ⟨a_h, c_h, rfl, _, _⟩ := Ty.row_len hr22
  have S23 := S21.out.row_new hb22 hr22 hn22 hF22
  clear S21 hr22 hb22 hn22 hF22
  replace S23 := Lib.hid S23
  go_wp2_with fail
  obtain ⟨G24, g24⟩ := S23.out.row_at (i := 0) rfl
  obtain ⟨G25, g25⟩ := S23.out.row_at (i := 2) rfl
  refine (eqLogRecordS_same _ _ rs G24 G25 _ g24 g25).mono ?_
  clear g24 g25
  rintro e w26 ⟨rfl, hb26⟩
  have S27 := S23.out.grow hb26
  clear S23 hb26
  replace S27 := Lib.hid S27
  go_wp2_with fail
  obtain ⟨G28, g28⟩ := S27.out.row_at (i := 1) rfl
  refine (heldLogRecordS_at g28 s1).mono ?_
  clear g28
  rintro e w29 ⟨rfl, hb29⟩
  have S30 := S27.out.grow hb29
  clear S27 hb29
  replace S30 := Lib.hid S30
  have hB := S30.out.below
  go_wp2_with fail
  go_ret
  exact ⟨rfl, hB⟩
end Go.Proofs.YtfcekfomhpmgpaaDoor
