/- The walk of FnLogLines. -/
import Derived.Test.YtfcekfomhpmgpaaDoorLogI
import Derived.Test.YtfcekfomhpmgpaaDoorLinA
import Derived.Test.YtfcekfomhpmgpaaDoorCurE
import Derived.Test.YtfcekfomhpmgpaaDoorStrF
import Derived.Test.YtfcekfomhpmgpaaDoorOpenC
namespace Go.Proofs.YtfcekfomhpmgpaaDoor
open Go.RowKit

theorem vBig_any (ca : Option Addr) (cl cc : Nat) (w : World) : Calls Tryd.prog 37 #[.slice ca cl cc] w fun e w' => e = .returned (.bool (decide ((65536 : Int) < (cl : Int)))) ∧ w' = w := by
  go_enter Tryd.func37, Tryd.ntmps37
  go_wp2_with fail
  go_ret
  exact ⟨rfl, rfl⟩

set_option maxRecDepth 100000 in
set_option maxHeartbeats 8000000 in
theorem FnLogLines_walk (ca : Option Addr) (cl cc : Nat) (a : Addr) (w : World) (hE : EnvE a w) (hc : CodeOk w ca cl) :
    Calls Tryd.prog 11 #[.slice ca cl cc] w fun e w' => e = .returned (.bool true) ∧ Below w.heap.size w w' := by
  have hEH := Lib.hid hE
  have hcH := Lib.hid hc
  clear hE hc
  by_cases hbig : (65536 : Int) < (cl : Int)
  · go_enter Tryd.func11, Tryd.ntmps11
    go_wp2_with fail
    refine (vBig_any _ _ _ _).mono ?_
    rintro e w1 ⟨rfl, rfl⟩
    rw [decide_eq_true hbig]
    go_wp2_with fail
    go_ret
    exact ⟨rfl, bb _⟩
  have hsm : cl ≤ 65536 := by omega
  have hv := Lib.hid (decide_eq_false hbig)
  clear hbig
  go_enter Tryd.func11, Tryd.ntmps11
  go_wp2_with fail
  refine (vBig_any _ _ _ _).mono ?_
  rintro e w1 ⟨rfl, rfl⟩
  rw [hv.out]
  go_wp2_with fail
  refine (drawEncodeRecord_any ca cl cc w1 hcH.out hsm).mono ?_
  rintro e w2 ⟨k, q, r, hk0, hk1, hq, hr, rfl, hb2⟩
  have S2 := ((Sp.start w1).grow hb2).alloc_box #[.string q, .string r] 27
  clear hb2
  obtain ⟨en, hen⟩ : ∃ en, encB k (bl q) (bl r) = en := ⟨_, rfl⟩
  obtain ⟨E, ok⟩ := en
  have hE4 : (ms E).size ≤ 400 := by have := enc_len k (bl q) (bl r); rw [hen] at this; exact this
  replace hen := Lib.hid hen
  have c0 := S2.cell (i := 0) rfl (o := 0) rfl
  have c1 := S2.cell (i := 0) rfl (o := 1) rfl
  have hB2 := S2.below
  replace S2 := Lib.hid S2
  go_wp2_with fail
  refine (implEncodeRecord_any k q r _ (hEH.out.grow hB2).env (by omega) (by omega)).mono ?_
  rw [hen.out]
  rintro e w3 ⟨rfl, hb3⟩
  have S3 := S2.out.grow hb3
  clear S2 hb3 c0 c1 hB2
  have c0 := S3.cell (i := 0) rfl (o := 0) rfl
  have c1 := S3.cell (i := 0) rfl (o := 1) rfl
  replace S3 := Lib.hid S3
  go_wp2_with fail
  refine (specEncodeRecord_any k q r _ (by omega) (by omega)).mono ?_
  rw [hen.out]
  rintro e w4 ⟨rfl, hb4⟩
  have S4 := S3.out.grow hb4
  clear S3 hb4 c0 c1
  have hB4 := S4.below
  replace S4 := Lib.hid S4
  go_wp2_with fail
  refine (drawRecoverLog_any ca cl cc _ (hcH.out.grow hB4) hsm).mono ?_
  rintro e w5 ⟨t, ht, rfl, hb5⟩
  have S5 := S4.out.grow hb5
  clear S4 hb5 hB4
  have hB5 := S5.below
  replace S5 := Lib.hid S5
  obtain ⟨rc, hrc⟩ : ∃ rc, recovB (bl t) = rc := ⟨_, rfl⟩
  obtain ⟨m, n, en, told⟩ := rc
  replace hrc := Lib.hid hrc
  go_wp2_with fail
  refine (implRecoverLog_any t a _ (hEH.out.grow hB5) (by omega)).mono ?_
  rw [hrc.out]
  rintro e w6 ⟨rfl, hb6⟩
  have S6 := (S5.out.grow hb6).alloc_box #[.string (ms m), .string ⟨#[]⟩, .int .i64 n] 31
  clear S5 hb6 hB5
  replace S6 := Lib.hid S6
  go_wp2_with fail
  refine (specRecoverLog_any t _ (by omega)).mono ?_
  rw [hrc.out]
  rintro e w7 ⟨rfl, hb7⟩
  have S7 := (S6.out.grow hb7).alloc_box #[.string (ms m), .string ⟨#[]⟩, .int .i64 n] 31
  clear S6 hb7
  have m0 := S7.cell (i := 1) rfl (o := 0) rfl
  have m1 := S7.cell (i := 1) rfl (o := 1) rfl
  have m2 := S7.cell (i := 1) rfl (o := 2) rfl
  have n0 := S7.cell (i := 0) rfl (o := 0) rfl
  have n1 := S7.cell (i := 0) rfl (o := 1) rfl
  have n2 := S7.cell (i := 0) rfl (o := 2) rfl
  have hB7 := S7.below
  replace S7 := Lib.hid S7
  go_wp2_with fail
  obtain ⟨rd, hrd⟩ : ∃ rd, recovB E = rd := ⟨_, rfl⟩
  obtain ⟨m', n', en', told'⟩ := rd
  replace hrd := Lib.hid hrd
  refine (implRecoverLog_any (ms E) a _ (hEH.out.grow hB7) (by omega)).mono ?_
  rw [bl_ms, hrd.out]
  rintro e w8 ⟨rfl, hb8⟩
  have S8 := (S7.out.grow hb8).alloc_box #[.string (ms m'), .string ⟨#[]⟩, .int .i64 n'] 31
  clear S7 hb8 hB7 m0 m1 m2 n0 n1 n2
  have m0 := S8.cell (i := 2) rfl (o := 0) rfl
  have m1 := S8.cell (i := 2) rfl (o := 1) rfl
  have m2 := S8.cell (i := 2) rfl (o := 2) rfl
  have x2 := S8.cell (i := 0) rfl (o := 2) rfl
  have hB8 := S8.below
  replace S8 := Lib.hid S8
  obtain ⟨sy, hsy⟩ : ∃ sy, syncB m [] n = sy := ⟨_, rfl⟩
  obtain ⟨m9, n9, ok9⟩ := sy
  replace hsy := Lib.hid hsy
  have hml : Hid (m.length ≤ 40000) := by
    unfold Hid
    have := hrc.out
    unfold recovB at this
    split at this
    · simp only [Prod.mk.injEq] at this
      rw [← this.1, List.length_take, bl_length]; omega
    · simp only [Prod.mk.injEq] at this
      rw [← this.1]; simp
  have hfacts : Hid (told = true → validB m [] n = true ∧ m = m9 ∧ n = n9 ∧ true = ok9) := by
    unfold Hid
    intro ht
    subst ht
    obtain ⟨h1, h2, _⟩ := recov_valid hrc.out
    have h3 := hsy.out
    rw [h2] at h3
    simp only [Prod.mk.injEq] at h3
    exact ⟨h1, h3.1, h3.2.1, h3.2.2⟩
  have hline : Hid ((ok = true → (0 < en' ↔ k = 0) ∧ (k = 0 → n' = 1) ∧ (k ≠ 0 → en' = 0)) ∧ (ok = false → E = [])) := by
    unfold Hid
    have h1 := hen.out
    constructor
    · rintro rfl
      obtain ⟨h2, h3⟩ := recov_line h1
      rw [hrd.out] at h2 h3
      exact ⟨h2, h3⟩
    · rintro rfl
      exact enc_no h1
  cases ok
  · obtain rfl := hline.out.2 rfl
    go_wp2_with fail
    refine (implSyncLog_any (ms m) ⟨#[]⟩ n a _ (hEH.out.grow hB8) (by rw [ms_size]; have := hml.out; omega) (by show 0 ≤ _; omega)).mono ?_
    rw [bl_ms, show bl ⟨#[]⟩ = [] from rfl, hsy.out]
    rintro e w9 ⟨rfl, hb9⟩
    have S9 := (S8.out.grow hb9).alloc_box #[.string (ms m9), .string ⟨#[]⟩, .int .i64 n9] 31
    clear S8 hb9 hB8 m0 m1 m2 x2
    have m0 := S9.cell (i := 3) rfl (o := 0) rfl
    have m1 := S9.cell (i := 3) rfl (o := 1) rfl
    have m2 := S9.cell (i := 3) rfl (o := 2) rfl
    have x0 := S9.cell (i := 0) rfl (o := 0) rfl
    have x1 := S9.cell (i := 0) rfl (o := 1) rfl
    have x2 := S9.cell (i := 0) rfl (o := 2) rfl
    have hB9 := S9.below
    replace S9 := Lib.hid S9
    cases told
    · go_wp2_with fail
      go_ret
      exact ⟨rfl, hB9⟩
    · obtain ⟨hv, rfl, rfl, rfl⟩ := hfacts.out rfl
      have hv := Lib.hid hv
      go_wp2_with fail
      refine (implIsValidLog_any (ms m) ⟨#[]⟩ n a _ (hEH.out.grow hB9) (by rw [ms_size]; have := hml.out; omega) (by show 0 ≤ _; omega)).mono ?_
      rw [bl_ms, show bl ⟨#[]⟩ = [] from rfl, hv.out]
      rintro e w10 ⟨rfl, hb10⟩
      have hB := btr hB9 hb10
      go_wp2_with fail
      go_ret
      exact ⟨rfl, hB⟩
  · by_cases hk : k = 0
    · subst hk
      have he : 0 < en' := ((hline.out.1 rfl).1).2 rfl
      obtain rfl := (hline.out.1 rfl).2.1 rfl
      go_wp2_with fail
      refine (implSyncLog_any (ms m) ⟨#[]⟩ n a _ (hEH.out.grow hB8) (by rw [ms_size]; have := hml.out; omega) (by show 0 ≤ _; omega)).mono ?_
      rw [bl_ms, show bl ⟨#[]⟩ = [] from rfl, hsy.out]
      rintro e w9 ⟨rfl, hb9⟩
      have S9 := (S8.out.grow hb9).alloc_box #[.string (ms m9), .string ⟨#[]⟩, .int .i64 n9] 31
      clear S8 hb9 hB8 m0 m1 m2 x2
      have m0 := S9.cell (i := 3) rfl (o := 0) rfl
      have m1 := S9.cell (i := 3) rfl (o := 1) rfl
      have m2 := S9.cell (i := 3) rfl (o := 2) rfl
      have x0 := S9.cell (i := 0) rfl (o := 0) rfl
      have x1 := S9.cell (i := 0) rfl (o := 1) rfl
      have x2 := S9.cell (i := 0) rfl (o := 2) rfl
      have hB9 := S9.below
      replace S9 := Lib.hid S9
      cases told
      · go_wp2_with fail
        go_ret
        exact ⟨rfl, hB9⟩
      · obtain ⟨hv, rfl, rfl, rfl⟩ := hfacts.out rfl
        have hv := Lib.hid hv
        go_wp2_with fail
        refine (implIsValidLog_any (ms m) ⟨#[]⟩ n a _ (hEH.out.grow hB9) (by rw [ms_size]; have := hml.out; omega) (by show 0 ≤ _; omega)).mono ?_
        rw [bl_ms, show bl ⟨#[]⟩ = [] from rfl, hv.out]
        rintro e w10 ⟨rfl, hb10⟩
        have hB := btr hB9 hb10
        go_wp2_with fail
        go_ret
        exact ⟨rfl, hB⟩
    · obtain rfl := (hline.out.1 rfl).2.2 hk
      go_wp2_with fail
      refine (implSyncLog_any (ms m) ⟨#[]⟩ n a _ (hEH.out.grow hB8) (by rw [ms_size]; have := hml.out; omega) (by show 0 ≤ _; omega)).mono ?_
      rw [bl_ms, show bl ⟨#[]⟩ = [] from rfl, hsy.out]
      rintro e w9 ⟨rfl, hb9⟩
      have S9 := (S8.out.grow hb9).alloc_box #[.string (ms m9), .string ⟨#[]⟩, .int .i64 n9] 31
      clear S8 hb9 hB8 m0 m1 m2 x2
      have m0 := S9.cell (i := 3) rfl (o := 0) rfl
      have m1 := S9.cell (i := 3) rfl (o := 1) rfl
      have m2 := S9.cell (i := 3) rfl (o := 2) rfl
      have x0 := S9.cell (i := 0) rfl (o := 0) rfl
      have x1 := S9.cell (i := 0) rfl (o := 1) rfl
      have x2 := S9.cell (i := 0) rfl (o := 2) rfl
      have hB9 := S9.below
      replace S9 := Lib.hid S9
      cases told
      · go_wp2_with fail
        go_ret
        exact ⟨rfl, hB9⟩
      · obtain ⟨hv, rfl, rfl, rfl⟩ := hfacts.out rfl
        have hv := Lib.hid hv
        go_wp2_with fail
        refine (implIsValidLog_any (ms m) ⟨#[]⟩ n a _ (hEH.out.grow hB9) (by rw [ms_size]; have := hml.out; omega) (by show 0 ≤ _; omega)).mono ?_
        rw [bl_ms, show bl ⟨#[]⟩ = [] from rfl, hv.out]
        rintro e w10 ⟨rfl, hb10⟩
        have hB := btr hB9 hb10
        go_wp2_with fail
        go_ret
        exact ⟨rfl, hB⟩
end Go.Proofs.YtfcekfomhpmgpaaDoor
