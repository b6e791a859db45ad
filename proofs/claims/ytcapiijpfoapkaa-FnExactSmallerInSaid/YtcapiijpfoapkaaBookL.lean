/- Contracts: the record of a name in a system, in the program. -/
import Derived.Test.YtcapiijpfoapkaaBookK
namespace Go.Proofs.Ytcapiijpfoapkaa
open Go.RowKit

/-- The record that is found, or an empty one. -/
def gotR (xs : List Rec) (n : List UInt8) (s : Int) : Rec := (recOf xs n s).getD rcZ
set_option maxRecDepth 100000 in
set_option maxHeartbeats 4000000 in
theorem recordOf_any (v : Value) (xs : List Rec) (n : List UInt8) (s : Int) (F : List Nat) (w : World) (hx : rcTy.row false w v xs F) (hb : bookB xs = true) :
    Calls Try.prog 21 #[v, .string (ms n), .int .i64 s] w fun e w' => e = .returned (.tuple #[rcV (gotR xs n s), .bool (recOf xs n s).isSome]) ∧ Below w.heap.size w w' := by
  obtain ⟨a, c, rfl, hx1, hx2, hg, hx3⟩ := row_rc hx
  have S0 := ((((Sp.start w).alloc_box #[.string (ms n)] 9).alloc_box #[.int .i64 s] 3).alloc_box #[.string ⟨#[]⟩, .int .i64 0, .int .i64 0, .int .i64 0] 39)
  simp only [World.size_alloc] at S0
  have kn := S0.cell (i := 2) rfl (o := 0) rfl
  have ks := S0.cell (i := 1) rfl (o := 0) rfl
  replace S0 := Lib.hid S0
  have hxr := Lib.hid hx
  replace hb := Lib.hid hb
  have hcall := Lib.hid (indexRec_any _ xs n s _ _ F _ (Ty.row_below hxr.out S0.out.below (Ty.row_lt hxr.out)) kn ks)
  clear hx kn ks
  go_enter Try.func21, Try.ntmps21
  go_wp2_with fail
  refine hcall.out.mono ?_
  rintro e w1 ⟨z, rfl, hz, hb1⟩
  have S1 := Lib.hid (S0.out.grow hb1)
  clear S0 hcall hb1
  rcases hz with ⟨rfl, hn⟩ | ⟨k, hk, rfl, hn⟩
  · have hR : Hid (rcV (gotR xs n s) = .agg #[.string ⟨#[]⟩, .int .i64 0, .int .i64 0, .int .i64 0] ∧ (recOf xs n s).isSome = false) := by unfold Hid gotR; rw [hn]; exact ⟨rfl, rfl⟩
    clear hn
    go_wp2_with fail
    refine (isBook_at (Ty.row_below hxr.out S1.out.below (Ty.row_lt hxr.out)) hb.out).mono ?_
    rintro e w2 ⟨rfl, hb2⟩
    have S2 := S1.out.grow hb2
    have z0 := S2.cell (i := 0) rfl (o := 0) rfl
    have z1 := S2.cell (i := 0) rfl (o := 1) rfl
    have z2 := S2.cell (i := 0) rfl (o := 2) rfl
    have z3 := S2.cell (i := 0) rfl (o := 3) rfl
    have y0 := S2.frozen (i := 0) rfl 0
    have y1 := S2.frozen (i := 0) rfl 1
    have y2 := S2.frozen (i := 0) rfl 2
    have y3 := S2.frozen (i := 0) rfl 3
    have S3 := ((((S2.store (i := 0) rfl 0 (.string ⟨#[]⟩)).store (i := 0) rfl 1 (.int .i64 0)).store (i := 0) rfl 2 (.int .i64 0)).store (i := 0) rfl 3 (.int .i64 0))
    replace S3 := Lib.hid S3
    clear S1 S2 hb2
    go_wp2_with fail
    have m0 := S3.out.cell (i := 0) rfl (o := 0) rfl
    have m1 := S3.out.cell (i := 0) rfl (o := 1) rfl
    have m2 := S3.out.cell (i := 0) rfl (o := 2) rfl
    have m3 := S3.out.cell (i := 0) rfl (o := 3) rfl
    clear z0 z1 z2 z3 y0 y1 y2 y3
    generalize World.setCell (World.setCell (World.setCell (World.setCell w2 _ _) _ _) _ _) _ _ = W at *
    exact bodyPost_ret (v := .tuple #[.agg #[.string ⟨#[]⟩, .int .i64 0, .int .i64 0, .int .i64 0], .bool false]) (by simp [results, Try.results21, go_sem, m0, m1, m2, m3]) rfl ⟨by rw [hR.out.1, hR.out.2], S3.out.below⟩
  · have hR : Hid (rcV (gotR xs n s) = rcV xs[k] ∧ (recOf xs n s).isSome = true) := by unfold Hid gotR; rw [hn]; exact ⟨rfl, rfl⟩
    clear hn
    rcases hx3 with ⟨rfl, rfl⟩ | ⟨hxn, b, off, rfl, rfl, hxc⟩
    · exact absurd hk (by simp)
    obtain ⟨p0, p1, p2, p3⟩ := hxc k hk
    have hkI : (k : Int) < (xs.length : Int) := by omega
    clear hxc
    go_wp2_with fail
    refine (isBook_at (Ty.row_below hxr.out S1.out.below (Ty.row_lt hxr.out)) hb.out).mono ?_
    rintro e w2 ⟨rfl, hb2⟩
    have S2 := S1.out.grow hb2
    have hp := S2.below.block b p0.lt
    have k0 := (p0.keep hp).1
    have k1 := (p1.keep hp).1
    have k2 := (p2.keep hp).1
    have k3 := (p3.keep hp).1
    have z0 := S2.cell (i := 0) rfl (o := 0) rfl
    have z1 := S2.cell (i := 0) rfl (o := 1) rfl
    have z2 := S2.cell (i := 0) rfl (o := 2) rfl
    have z3 := S2.cell (i := 0) rfl (o := 3) rfl
    have y0 := S2.frozen (i := 0) rfl 0
    have y1 := S2.frozen (i := 0) rfl 1
    have y2 := S2.frozen (i := 0) rfl 2
    have y3 := S2.frozen (i := 0) rfl 3
    generalize xs[k] = r at *
    have S3 := ((((S2.store (i := 0) rfl 0 (.string (ms r.name))).store (i := 0) rfl 1 (.int .i64 r.sys)).store (i := 0) rfl 2 (.int .i64 r.size)).store (i := 0) rfl 3 (.int .i64 r.extra))
    replace S3 := Lib.hid S3
    clear S1 S2 hb2 p0 p1 p2 p3 hp
    go_wp2_with fail
    have m0 := S3.out.cell (i := 0) rfl (o := 0) rfl
    have m1 := S3.out.cell (i := 0) rfl (o := 1) rfl
    have m2 := S3.out.cell (i := 0) rfl (o := 2) rfl
    have m3 := S3.out.cell (i := 0) rfl (o := 3) rfl
    clear z0 z1 z2 z3 y0 y1 y2 y3 k0 k1 k2 k3
    exact bodyPost_ret (v := .tuple #[rcV r, .bool true]) (by simp [results, Try.results21, go_sem, m0, m1, m2, m3]) rfl ⟨by rw [hR.out.1, hR.out.2], S3.out.below⟩
end Go.Proofs.Ytcapiijpfoapkaa
