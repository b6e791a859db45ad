/- Contracts: names with a smaller proof, in the reference. Printed by gen_small.py. -/
import Derived.Test.YtcapiijpfoapkaaBookI
import Derived.Test.YtcapiijpfoapkaaSepB
namespace Go.Proofs.Ytcapiijpfoapkaa
open Go.RowKit

theorem infoStr : (Try.prog.info? 9).map (fun i => (i.zero, i.size, i.bytes)) = some (some (.string ByteArray.empty), 1, 16) := by kernel_rfl
abbrev stV (s : List UInt8) : Value := .string (ms s)
/-- A row of strings of its own. -/
abbrev Strs (v : Value) (ys : List (List UInt8)) : Asn := Own 9 1 v ys.length (ys.map stV)
theorem st_flat (ys : List (List UInt8)) : ys.map stV = ys.flatMap stEnc := by
  induction ys with
  | nil => rfl
  | cons y ys ih => rw [List.map_cons, List.flatMap_cons, ih]; rfl
theorem Sp.strs_row {w0 w : World} {ps : List Asn} {i : Nat} {v : Value} {ys : List (List UInt8)} (h : Sp w0 w ps) (hi : ps[i]? = some (Strs v ys)) (hg : ∀ y ∈ ys, stOk y) :
    ∃ F, stTy.row true w v ys F ∧ F.Nodup ∧ ∀ b ∈ F, w0.heap.size ≤ b := by
  obtain ⟨Fi, ⟨rfl, ho⟩, hF, -⟩ := h.upd hi
  obtain ⟨F, hr, hF2, _⟩ := Ty.row_of_owns (T := stTy) (xs := ys) (G := []) ho rfl (by decide) (flat_all.2 ⟨st_flat ys, hg, rfl⟩)
  refine ⟨F, hr, ?_, fun b hb => ?_⟩
  · rcases hF2 with rfl | ⟨g, _, _, _, rfl⟩ <;> simp
  · rcases hF2 with rfl | ⟨g, _, _, hg, rfl⟩
    · cases hb
    · refine hF b ?_
      rw [hg]; simpa using hb
theorem own_slice {w : World} {B : Nat} {e : TypeId} {n : Nat} {v : Value} {cs : List Value} (h : w.ownsRow B e 1 v n cs) : ∃ A c, v = .slice A n c := by
  obtain ⟨a, c, rfl⟩ := owns_form h
  exact ⟨a, c, rfl⟩

/-- A list of names of its own, and whether there is one. -/
def SmPost (ok : Bool) (xs : List Rec) (one two : Int) (w : World) (e : Ending) (w' : World) : Prop :=
  ∃ v ys Fb, e = .returned (.tuple #[v, .bool ok]) ∧ stTy.row true w' v ys Fb ∧ Fb.Nodup ∧ (∀ b ∈ Fb, w.heap.size ≤ b) ∧ Below w.heap.size w w' ∧ ys = if ok then smallS xs one two else []
def okSm (xs : List Rec) (one two : Int) : Bool := bookB xs && inB one 1 4 && inB two 1 4
theorem l31Good_at {v : Value} {xs : List Rec} {F : List Nat} {w : World} {q : Bool} (hx : rcTy.row false w v xs F) (h : bookB xs = q) :
    Calls Try.prog 14 #[v] w fun e w' => e = .returned (.bool q) ∧ Below w.heap.size w w' := h ▸ l31Good_any v xs F w hx
theorem isBook_at {v : Value} {xs : List Rec} {F : List Nat} {w : World} {q : Bool} (hx : rcTy.row false w v xs F) (h : bookB xs = q) :
    Calls Try.prog 27 #[v] w fun e w' => e = .returned (.bool q) ∧ Below w.heap.size w w' := h ▸ isBook_any v xs F w hx

/-- What the reference has put together so far. -/
def smallI (xs : List Rec) (one two : Int) (i : Nat) : List (List UInt8) := (xs.take i).flatMap fun r => xs.flatMap fun q => if underB one two r q then [r.name] else []
def smallK (xs : List Rec) (one two : Int) (i k : Nat) : List (List UInt8) := smallI xs one two i ++ (xs.take k).flatMap fun q => if underB one two (xs.getD i ⟨[], 0, 0, 0⟩) q then [(xs.getD i ⟨[], 0, 0, 0⟩).name] else []
theorem smallK_zero {xs : List Rec} {one two : Int} {i : Nat} : smallK xs one two i 0 = smallI xs one two i := by simp [smallK]
theorem smallK_succ {xs : List Rec} {one two : Int} {i k : Nat} (hi : i < xs.length) (hk : k < xs.length) : smallK xs one two i (k + 1) = smallK xs one two i k ++ (if underB one two xs[i] xs[k] then [xs[i].name] else []) := by
  unfold smallK
  rw [List.take_succ_eq_append_getElem hk, List.flatMap_append, List.getD_eq_getElem?_getD, List.getElem?_eq_getElem hi]
  simp
theorem smallI_succ {xs : List Rec} {one two : Int} {i : Nat} (hi : i < xs.length) : smallK xs one two i xs.length = smallI xs one two (i + 1) := by
  unfold smallK smallI
  rw [List.take_length, List.take_succ_eq_append_getElem hi, List.flatMap_append, List.getD_eq_getElem?_getD, List.getElem?_eq_getElem hi]
  simp
theorem smallI_all {xs : List Rec} {one two : Int} : smallI xs one two xs.length = smallS xs one two := by unfold smallI smallS; rw [List.take_length]
theorem under_names {one two : Int} {r q : Rec} {s1 s2 s3 s4 : Bool} (h1 : decide (r.sys = one) = s1) (h2 : decide (q.sys = two) = s2) (h3 : (r.name == q.name) = s3) (h4 : decide (r.size < q.size) = s4) : underB one two r q = (s1 && s2 && s3 && s4) := by unfold underB; rw [h1, h2, h3, h4]
/-- While the pairs are looked at. -/
def SI (w : World) (v : Value) (ys : List (List UInt8)) (n : Nat) (wr : World) : Prop := Sp w wr [Strs v ys] ∧ ys.length ≤ n

set_option maxRecDepth 100000 in
set_option maxHeartbeats 8000000 in
theorem specSmaller_any (v : Value) (xs : List Rec) (one two : Int) (F : List Nat) (w : World) (hx : rcTy.row false w v xs F) :
    Calls Try.prog 5 #[v, .int .i64 one, .int .i64 two] w (SmPost (okSm xs one two) xs one two w) := by
  obtain ⟨i0, hi, hz0, hz1, hz2⟩ := info_parts infoStr
  obtain ⟨a, c, rfl, hx1, hx2, hg, hx3⟩ := row_rc hx
  have S0 := Lib.hid ((Sp.start w).own_made 9 1)
  have hxr := Lib.hid hx
  clear hx
  cases hq1 : bookB xs
  · have hok : Hid (okSm xs one two = false) := by unfold Hid okSm; rw [hq1]; rfl
    go_enter Try.func5, Try.ntmps5
    go_wp2_with fail
    refine (l31Good_at (Ty.row_below hxr.out S0.out.below (Ty.row_lt hxr.out)) hq1).mono ?_
    rintro e w1 ⟨rfl, hb1⟩
    have S1 := Lib.hid (S0.out.grow hb1)
    obtain ⟨Fb, h1, h2, h3⟩ := S1.out.strs_row (i := 0) (ys := []) rfl (by simp)
    have hB := S1.out.below
    replace h1 := Lib.hid h1
    clear S1
    go_wp2_with (go_at_call 15; refine (l31System_any _ _).mono ?_; rintro e w2 ⟨rfl, rfl⟩)
    go_ret2
    exact ⟨_, [], Fb, by rw [hok.out]; rfl, h1.out, h2, h3, hB, by rw [hok.out]; rfl⟩
  cases hq2 : inB one 1 4
  · have hok : Hid (okSm xs one two = false) := by unfold Hid okSm; rw [hq1, hq2]; rfl
    go_enter Try.func5, Try.ntmps5
    go_wp2_with fail
    refine (l31Good_at (Ty.row_below hxr.out S0.out.below (Ty.row_lt hxr.out)) hq1).mono ?_
    rintro e w1 ⟨rfl, hb1⟩
    have S1 := Lib.hid (S0.out.grow hb1)
    obtain ⟨Fb, h1, h2, h3⟩ := S1.out.strs_row (i := 0) (ys := []) rfl (by simp)
    have hB := S1.out.below
    replace h1 := Lib.hid h1
    clear S1
    go_wp2_with (go_at_call 15; refine (l31System_any _ _).mono ?_; rintro e w2 ⟨rfl, rfl⟩)
    go_ret2
    exact ⟨_, [], Fb, by rw [hok.out]; rfl, h1.out, h2, h3, hB, by rw [hok.out]; rfl⟩
  cases hq3 : inB two 1 4
  · have hok : Hid (okSm xs one two = false) := by unfold Hid okSm; rw [hq1, hq2, hq3]; rfl
    go_enter Try.func5, Try.ntmps5
    go_wp2_with fail
    refine (l31Good_at (Ty.row_below hxr.out S0.out.below (Ty.row_lt hxr.out)) hq1).mono ?_
    rintro e w1 ⟨rfl, hb1⟩
    have S1 := Lib.hid (S0.out.grow hb1)
    obtain ⟨Fb, h1, h2, h3⟩ := S1.out.strs_row (i := 0) (ys := []) rfl (by simp)
    have hB := S1.out.below
    replace h1 := Lib.hid h1
    clear S1
    go_wp2_with (go_at_call 15; refine (l31System_any _ _).mono ?_; rintro e w2 ⟨rfl, rfl⟩)
    go_ret2
    exact ⟨_, [], Fb, by rw [hok.out]; rfl, h1.out, h2, h3, hB, by rw [hok.out]; rfl⟩
  have hok : Hid (okSm xs one two = true) := by unfold Hid okSm; rw [hq1, hq2, hq3]; rfl
  have h24 : xs.length ≤ 24 := by unfold bookB at hq1; rw [Bool.and_eq_true, decide_eq_true_eq] at hq1; exact hq1.2
  go_enter Try.func5, Try.ntmps5
  go_wp2_with fail
  refine (l31Good_at (Ty.row_below hxr.out S0.out.below (Ty.row_lt hxr.out)) hq1).mono ?_
  rintro e w1 ⟨rfl, hb1⟩
  have S1 := Lib.hid (S0.out.grow hb1)
  have HI : Hid (SI w _ (smallI xs one two 0) 0 w1) := ⟨S1.out, by simp [smallI]⟩
  clear S0 S1 hb1
  go_wp2_with (go_at_call 15; refine (l31System_any _ _).mono ?_; rintro e w2 ⟨rfl, rfl⟩)
  go_loopw [8, 9] (fun vo vi wr => ∃ (i : Nat) (A : Option Addr) (cc : Nat) (ys : List (List UInt8)), i ≤ xs.length ∧ vi = .int .i64 i ∧ vo = .slice A ys.length cc ∧ Hid (ys = smallI xs one two i) ∧ Hid (SI w (.slice A ys.length cc) ys (24 * i) wr)) (fun _ vi _ => xs.length - (intOf vi).toNat)
  case atStart => exact ⟨0, _, _, [], Nat.zero_le _, rfl, rfl, rfl, HI⟩
  case round =>
    obtain ⟨i, A, cc, ys, hile, rfl, rfl, HY, HS⟩ := hrel
    clear HI
    by_cases hilt : i < xs.length
    · have HK0 : Hid (SI w (.slice A ys.length cc) ys (24 * i + 0) wr) := HS.out
      have HY0 : Hid (ys = smallK xs one two i 0) := by unfold Hid; rw [smallK_zero]; exact HY.out
      clear HY HS
      go_wp2_with fail
      go_loopw [8, 10] (fun vo vk wr => ∃ (k : Nat) (A : Option Addr) (cc : Nat) (ys : List (List UInt8)), k ≤ xs.length ∧ vk = .int .i64 k ∧ vo = .slice A ys.length cc ∧ Hid (ys = smallK xs one two i k) ∧ Hid (SI w (.slice A ys.length cc) ys (24 * i + k) wr)) (fun _ vk _ => xs.length - (intOf vk).toNat)
      case atStart => exact ⟨0, A, cc, ys, Nat.zero_le _, rfl, rfl, HY0, HK0⟩
      case round =>
        obtain ⟨k, A, cc, ys, hkle, rfl, rfl, HY, HS⟩ := hrel
        clear HY0 HK0
        by_cases hklt : k < xs.length
        · rcases hx3 with ⟨rfl, rfl⟩ | ⟨hxn, b, off, rfl, rfl, hxc⟩
          · exact absurd hilt (by simp)
          obtain ⟨p0, p1, p2, p3⟩ := hxc i hilt
          obtain ⟨q0, q1, q2, q3⟩ := hxc k hklt
          have hp := HS.out.1.below.block b p0.lt
          have k0 := (p0.keep hp).1
          have g0 := cell_regrown k0
          have g1 := cell_regrown (p1.keep hp).1
          have g2 := cell_regrown (p2.keep hp).1
          have m0 := cell_regrown (q0.keep hp).1
          have m1 := cell_regrown (q1.keep hp).1
          have m2 := cell_regrown (q2.keep hp).1
          have hyl := HS.out.2
          have hsu := Lib.hid (smallK_succ (one := one) (two := two) hilt hklt)
          have hnl : xs[i].name.length ≤ 9223372036854775807 := (hg _ (List.getElem_mem hilt)).1
          clear p0 p1 p2 p3 q0 q1 q2 q3 hp hxc
          generalize xs[i] = r at *
          generalize xs[k] = q at *
          obtain ⟨rn, rs, rz, re⟩ := r
          obtain ⟨qn, qs, qz, qe⟩ := q
          simp only at g0 g1 g2 m0 m1 m2 k0
          by_cases t1 : rs = one
          case neg =>
            have hu : Hid (underB one two ⟨rn, rs, rz, re⟩ ⟨qn, qs, qz, qe⟩ = false) := by
              unfold Hid
              cases h : underB one two ⟨rn, rs, rz, re⟩ ⟨qn, qs, qz, qe⟩ with
              | false => rfl
              | true => exact absurd (under_spec.1 h).1 t1
            have HY2 : Hid (ys = smallK xs one two i (k + 1)) := by unfold Hid; rw [hsu.out, hu.out, HY.out]; simp
            have ft1 : (rs == one) = false := by simpa using t1
            clear hu hsu HY k0
            go_wp2_with fail
            refine wp_region_quiet_below (by kernel_rfl) (by kernel_rfl) ?_
            repeat (any_goals (go_big_quiet_step (fail)))
            refine wpQuiet_nil ?_
            rintro w3 ⟨p, rfl⟩
            have HS2 : Hid (SI w (.slice A ys.length cc) ys (24 * i + (k + 1)) _) := ⟨HS.out.1.grow (below_regrown _ p.d p.os), by omega⟩
            clear HS g0 g1 g2 m0 m1 m2
            go_wp2_with fail
            go_roundw
            case rel => exact ⟨k + 1, A, cc, ys, by omega, by go_num, rfl, HY2, HS2⟩
            case measure => simp [intOf]; omega
          have ft1 : (rs == one) = true := by simpa using t1
          by_cases t2 : qs = two
          case neg =>
            have hu : Hid (underB one two ⟨rn, rs, rz, re⟩ ⟨qn, qs, qz, qe⟩ = false) := by
              unfold Hid
              cases h : underB one two ⟨rn, rs, rz, re⟩ ⟨qn, qs, qz, qe⟩ with
              | false => rfl
              | true => exact absurd (under_spec.1 h).2.1 t2
            have HY2 : Hid (ys = smallK xs one two i (k + 1)) := by unfold Hid; rw [hsu.out, hu.out, HY.out]; simp
            have ft2 : (qs == two) = false := by simpa using t2
            clear hu hsu HY k0
            go_wp2_with fail
            refine wp_region_quiet_below (by kernel_rfl) (by kernel_rfl) ?_
            repeat (any_goals (go_big_quiet_step (fail)))
            refine wpQuiet_nil ?_
            rintro w3 ⟨p, rfl⟩
            have HS2 : Hid (SI w (.slice A ys.length cc) ys (24 * i + (k + 1)) _) := ⟨HS.out.1.grow (below_regrown _ p.d p.os), by omega⟩
            clear HS g0 g1 g2 m0 m1 m2
            go_wp2_with fail
            go_roundw
            case rel => exact ⟨k + 1, A, cc, ys, by omega, by go_num, rfl, HY2, HS2⟩
            case measure => simp [intOf]; omega
          have ft2 : (qs == two) = true := by simpa using t2
          by_cases t3 : rn = qn
          case neg =>
            have hu : Hid (underB one two ⟨rn, rs, rz, re⟩ ⟨qn, qs, qz, qe⟩ = false) := by
              unfold Hid
              cases h : underB one two ⟨rn, rs, rz, re⟩ ⟨qn, qs, qz, qe⟩ with
              | false => rfl
              | true => exact absurd (under_spec.1 h).2.2.1 t3
            have HY2 : Hid (ys = smallK xs one two i (k + 1)) := by unfold Hid; rw [hsu.out, hu.out, HY.out]; simp
            have ft3 : (rn == qn) = false := by simpa using t3
            clear hu hsu HY k0
            go_wp2_with fail
            refine wp_region_quiet_below (by kernel_rfl) (by kernel_rfl) ?_
            repeat (any_goals (go_big_quiet_step (fail)))
            refine wpQuiet_nil ?_
            rintro w3 ⟨p, rfl⟩
            have HS2 : Hid (SI w (.slice A ys.length cc) ys (24 * i + (k + 1)) _) := ⟨HS.out.1.grow (below_regrown _ p.d p.os), by omega⟩
            clear HS g0 g1 g2 m0 m1 m2
            go_wp2_with fail
            go_roundw
            case rel => exact ⟨k + 1, A, cc, ys, by omega, by go_num, rfl, HY2, HS2⟩
            case measure => simp [intOf]; omega
          have ft3 : (rn == qn) = true := by simpa using t3
          by_cases t4 : rz < qz
          case neg =>
            have hu : Hid (underB one two ⟨rn, rs, rz, re⟩ ⟨qn, qs, qz, qe⟩ = false) := by
              unfold Hid
              cases h : underB one two ⟨rn, rs, rz, re⟩ ⟨qn, qs, qz, qe⟩ with
              | false => rfl
              | true => exact absurd (under_spec.1 h).2.2.2 t4
            have HY2 : Hid (ys = smallK xs one two i (k + 1)) := by unfold Hid; rw [hsu.out, hu.out, HY.out]; simp
            clear hu hsu HY k0
            go_wp2_with fail
            refine wp_region_quiet_below (by kernel_rfl) (by kernel_rfl) ?_
            repeat (any_goals (go_big_quiet_step (fail)))
            refine wpQuiet_nil ?_
            rintro w3 ⟨p, rfl⟩
            have HS2 : Hid (SI w (.slice A ys.length cc) ys (24 * i + (k + 1)) _) := ⟨HS.out.1.grow (below_regrown _ p.d p.os), by omega⟩
            clear HS g0 g1 g2 m0 m1 m2
            go_wp2_with fail
            go_roundw
            case rel => exact ⟨k + 1, A, cc, ys, by omega, by go_num, rfl, HY2, HS2⟩
            case measure => simp [intOf]; omega
          have hu : Hid (underB one two ⟨rn, rs, rz, re⟩ ⟨qn, qs, qz, qe⟩ = true) := under_spec.2 ⟨t1, t2, t3, t4⟩
          subst t3
          have HY2 : Hid (ys ++ [rn] = smallK xs one two i (k + 1)) := by unfold Hid; rw [hsu.out, hu.out, HY.out]; simp
          clear hu hsu HY
          go_wp2_with fail
          refine wp_region_quiet_below (by kernel_rfl) (by kernel_rfl) ?_
          repeat (any_goals (go_big_quiet_step (fail)))
          refine wpQuiet_nil ?_
          rintro w3 ⟨p, rfl⟩
          have kk := ((bcell (below_regrown wr p.d p.os)).1 b (off + i * 4) (World.block_lt_of_cell? _ _ k0)).trans k0
          have S2 := HS.out.1.grow (below_regrown _ p.d p.os)
          have hyl2 := HS.out.2
          clear HS g0 g1 g2 m0 m1 m2 k0 hyl
          generalize hW3 : Go.Sort.grow _ _ = W3 at *
          clear hW3
          have S3 := S2.alloc_box #[.string (ms rn)] 9
          clear S2
          have kB := S3.cell (i := 0) rfl (o := 0) rfl
          replace S3 := Lib.hid S3
          go_wp2_with (at_builtin; refine wpList_append_src rfl _ _ rfl Try.underlying24 hi hz0 hz1 hz2 rfl (by decide) _ _ _ rfl (S3.out.own (i := 1) rfl) _ 1 1 [.string (ms rn)] rfl (Src.one kB) (by simp [Value.oneCell']) ?c3 ?c4 ?_)
          case c3 => unfold maxLen; omega
          case c4 => omega
          intro vY wY hownY hgY hatY
          have S4 := (S3.out.own_push (i := 1) rfl (bb _) hownY hgY (by simpa using hatY)).tail
          obtain ⟨aY, cY, rfl⟩ := owns_form hownY
          have HS2 : Hid (SI w (.slice aY (ys ++ [rn]).length cY) (ys ++ [rn]) (24 * i + (k + 1)) wY) := ⟨by
            have := S4
            rw [show ys.length + 1 = (ys ++ [rn]).length by simp, show ys.map stV ++ [.string (ms rn)] = (ys ++ [rn]).map stV by simp] at this
            exact this, by rw [List.length_append]; simp; omega⟩
          have hlen : ys.length + 1 = (ys ++ [rn]).length := by simp
          obtain ⟨zs, hzs⟩ : ∃ z, ys ++ [rn] = z := ⟨_, rfl⟩
          rw [hzs] at HS2 HY2 hlen
          rw [hlen]
          replace hlen := Lib.hid hlen
          clear S3 S4 kB hownY hgY hatY hzs kk
          go_wp2_with fail
          go_roundw
          case rel => exact ⟨k + 1, aY, cY, zs, by omega, by go_num, rfl, HY2, HS2⟩
          case measure => simp [intOf]; omega
        · obtain rfl : k = xs.length := by omega
          have HY2 : Hid (ys = smallI xs one two (i + 1)) := by unfold Hid; rw [HY.out]; exact smallI_succ hilt
          have HS2 : Hid (SI w (.slice A ys.length cc) ys (24 * (i + 1)) wr) := ⟨HS.out.1, by have := HS.out.2; omega⟩
          clear HY HS
          go_wp2_with fail
          go_roundw
          case rel => exact ⟨i + 1, A, cc, ys, by omega, by go_num, rfl, HY2, HS2⟩
          case measure => simp [intOf]; omega
    · obtain rfl : i = xs.length := by omega
      have hys : ys = smallS xs one two := HY.out.trans smallI_all
      have hgy : ∀ y ∈ ys, stOk y := fun y hy => by
        rw [hys] at hy
        obtain ⟨r, hr, _, _, _, rfl⟩ := mem_smallS.1 hy
        exact (hg _ hr).1
      obtain ⟨Fb, h1, h2, h3⟩ := HS.out.1.strs_row (i := 0) rfl hgy
      have hB := HS.out.1.below
      replace h1 := Lib.hid h1
      replace hys := Lib.hid hys
      clear HY HS hgy
      go_wp2_with fail
      go_ret2
      exact ⟨_, ys, Fb, by rw [hok.out]; rfl, h1.out, h2, h3, hB, by rw [hok.out]; exact hys.out⟩
end Go.Proofs.Ytcapiijpfoapkaa
