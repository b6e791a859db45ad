/- Contracts: names with a smaller proof, in the program. -/
import Derived.Test.YtcapiijpfoapkaaBookP
namespace Go.Proofs.Ytcapiijpfoapkaa
open Go.RowKit

theorem sep_append : ∀ {qs ps : List Asn} {w : World} {F G : List Nat}, sep qs w F → sep ps w G → (∀ b ∈ F, b ∉ G) → sep (qs ++ ps) w (F ++ G)
  | [], ps, w, F, G, h, k, hd => by
    obtain rfl : F = [] := h
    exact k
  | q :: qs, ps, w, F, G, h, k, hd => by
    obtain ⟨F1, F2, rfl, h1, h2, h3⟩ := h
    refine ⟨F1, F2 ++ G, by rw [List.append_assoc], fun b hb hb2 => ?_, h2, sep_append h3 k fun b hb => hd b (List.mem_append.2 (.inr hb))⟩
    rcases List.mem_append.1 hb2 with h | h
    · exact h1 b hb h
    · exact hd b (List.mem_append.2 (.inl hb)) h
/-- Parts made by a call go in front. -/
theorem Sp.seq {w0 w w' : World} {ps qs : List Asn} (h : Sp w0 w ps) (k : Sp w w' qs) : Sp w0 w' (qs ++ ps) := by
  obtain ⟨h1, G, h2, h3⟩ := h
  obtain ⟨k1, F, k2, k3⟩ := k
  refine ⟨btr h1 k1, F ++ G, sep_append k2 (sep_keep h2 fun b hm => k1.block b (sep_lt h2 b hm)) (fun b hb hb2 => ?_), fun b hb => ?_⟩
  · have := k3 b hb; have := sep_lt h2 b hb2; omega
  · rcases List.mem_append.1 hb with h | h
    · have := k3 b h; have := h1.size; omega
    · exact h3 b h

set_option maxHeartbeats 1000000 in
theorem namesOf_no (v : Value) (xs : List Rec) (F : List Nat) (w : World) (hx : rcTy.row false w v xs F) (hb : bookB xs = false) :
    Calls Try.prog 17 #[v] w fun e w' => e = .returned (.tuple #[.slice none 0 0, .bool false]) ∧ Below w.heap.size w w' := by
  obtain ⟨a, c, rfl, _, _, _, _⟩ := row_rc hx
  go_enter Try.func17, Try.ntmps17
  go_wp2_with fail
  refine (isBook_at (Ty.row_grow hx (bb _)) hb).mono ?_
  rintro e w1 ⟨rfl, hb1⟩
  go_wp2_with fail
  go_ret2
  exact ⟨rfl, hb1⟩
set_option maxHeartbeats 2000000 in
theorem deleteNone_any (a : Option Addr) (cap : Nat) (b1 b2 b3 : Nat) (v : Value) (xs : List Rec) (one two : Int) (w : World) (hc : Caps w b1 b2 b3 v xs one two) :
    Calls Try.prog 19 #[.slice a 0 cap, .func (.func 20) #[] #[.pointer (some ⟨b1, 0, none⟩), .pointer (some ⟨b2, 0, none⟩), .pointer (some ⟨b3, 0, none⟩)]] w fun e w' => e = .returned (.slice a 0 cap) ∧ Below w.heap.size w w' := by
  have hix := Lib.hid (indexStr_any a cap [] b1 b2 b3 v xs one two w hc (fun j hj => absurd hj (by simp)) (by simp))
  go_enter Try.func19, Try.ntmps19
  go_wp2_with fail
  refine hix.out.mono ?_
  rintro e w1 ⟨z, rfl, hz, hb1⟩
  rcases hz with ⟨rfl, -⟩ | ⟨k, hk, -⟩
  · go_wp2_with fail
    go_ret
    exact ⟨rfl, hb1⟩
  · exact absurd hk (by simp)

set_option maxRecDepth 100000 in
set_option maxHeartbeats 8000000 in
theorem implSmaller_any (v : Value) (xs : List Rec) (one two : Int) (F : List Nat) (w : World) (hx : rcTy.row false w v xs F) :
    Calls Try.prog 7 #[v, .int .i64 one, .int .i64 two] w (SmPost (okSm xs one two) xs one two w) := by
  obtain ⟨a, c, rfl, hx1, hx2, hg, hx3⟩ := row_rc hx
  have S0 := (((Sp.start w).alloc_box #[.slice a xs.length c] 27).alloc_box #[.int .i64 one] 3).alloc_box #[.int .i64 two] 3
  simp only [World.size_alloc] at S0
  replace S0 := Lib.hid S0
  have hxr := Lib.hid hx
  clear hx hx3
  cases hq1 : bookB xs
  · have hok : Hid (okSm xs one two = false) := by unfold Hid okSm; rw [hq1]; rfl
    go_enter Try.func7, Try.ntmps7
    go_wp2_with fail
    refine (namesOf_no _ xs F _ (Ty.row_below hxr.out S0.out.below (Ty.row_lt hxr.out)) hq1).mono ?_
    rintro e w1 ⟨rfl, hb1⟩
    have hB := (S0.out.grow hb1).below
    go_wp2_with fail
    go_ret2
    exact ⟨_, [], [], by rw [hok.out]; rfl, Ty.row_nil _ _ _ _ _ (by decide), by simp, by simp, hB, by rw [hok.out]; rfl⟩
  have hnames := Lib.hid (namesOf_any _ xs F _ (Ty.row_below hxr.out S0.out.below (Ty.row_lt hxr.out)) hq1)
  cases hq2 : inB one 1 4
  · have hok : Hid (okSm xs one two = false) := by unfold Hid okSm; rw [hq1, hq2]; rfl
    go_enter Try.func7, Try.ntmps7
    go_wp2_with fail
    refine hnames.out.mono ?_
    rintro e w1 ⟨A, cap, ns, rfl, hA, hM, hn, hnc, hcm, hAlt⟩
    have hfacts : w1.cell? ⟨w.heap.size + 1, 0, none⟩ = some (.int .i64 one) ∧ w1.cell? ⟨w.heap.size + 1 + 1, 0, none⟩ = some (.int .i64 two) ∧ Below w.heap.size w w1 := by
      rcases hAlt with ⟨-, hb⟩ | ⟨g, cur, -, T, -, -⟩
      · have S1 := S0.out.grow hb
        exact ⟨S1.cell (i := 1) rfl (o := 0) rfl, S1.cell (i := 0) rfl (o := 0) rfl, S1.below⟩
      · have S1 := S0.out.seq T
        exact ⟨S1.cell (i := 2) rfl (o := 0) rfl, S1.cell (i := 1) rfl (o := 0) rfl, S1.below⟩
    obtain ⟨c2, c3, hB⟩ := hfacts
    clear S0 hAlt hA hM hnames
    go_wp2_with (go_at_call 18; refine (systemOk_any _ _).mono ?_; rw [hq2]; rintro e w2 ⟨rfl, rfl⟩)
    go_ret2
    exact ⟨_, [], [], by rw [hok.out]; rfl, Ty.row_nil _ _ _ _ _ (by decide), by simp, by simp, hB, by rw [hok.out]; rfl⟩
  cases hq3 : inB two 1 4
  · have hok : Hid (okSm xs one two = false) := by unfold Hid okSm; rw [hq1, hq2, hq3]; rfl
    go_enter Try.func7, Try.ntmps7
    go_wp2_with fail
    refine hnames.out.mono ?_
    rintro e w1 ⟨A, cap, ns, rfl, hA, hM, hn, hnc, hcm, hAlt⟩
    have hfacts : w1.cell? ⟨w.heap.size + 1, 0, none⟩ = some (.int .i64 one) ∧ w1.cell? ⟨w.heap.size + 1 + 1, 0, none⟩ = some (.int .i64 two) ∧ Below w.heap.size w w1 := by
      rcases hAlt with ⟨-, hb⟩ | ⟨g, cur, -, T, -, -⟩
      · have S1 := S0.out.grow hb
        exact ⟨S1.cell (i := 1) rfl (o := 0) rfl, S1.cell (i := 0) rfl (o := 0) rfl, S1.below⟩
      · have S1 := S0.out.seq T
        exact ⟨S1.cell (i := 2) rfl (o := 0) rfl, S1.cell (i := 1) rfl (o := 0) rfl, S1.below⟩
    obtain ⟨c2, c3, hB⟩ := hfacts
    clear S0 hAlt hA hM hnames
    go_wp2_with (go_at_call 18; refine (systemOk_any _ _).mono ?_; (first | rw [hq2] | rw [hq3]); rintro e w2 ⟨rfl, rfl⟩)
    go_ret2
    exact ⟨_, [], [], by rw [hok.out]; rfl, Ty.row_nil _ _ _ _ _ (by decide), by simp, by simp, hB, by rw [hok.out]; rfl⟩
  have hok : Hid (okSm xs one two = true) := by unfold Hid okSm; rw [hq1, hq2, hq3]; rfl
  go_enter Try.func7, Try.ntmps7
  go_wp2_with fail
  refine hnames.out.mono ?_
  rintro e w1 ⟨A, cap, ns, rfl, hA, hM, hn, hnc, hcm, hAlt⟩
  have hsm := Lib.hid (small_same hq1 (one := one) (two := two) hA hM)
  rcases hAlt with ⟨rfl, hb⟩ | ⟨g, cur, rfl, T, hcs, hN⟩
  · have S1 := S0.out.grow hb
    have c2 := S1.cell (i := 1) rfl (o := 0) rfl
    have c3 := S1.cell (i := 0) rfl (o := 0) rfl
    have hcaps : Caps w1 w.heap.size (w.heap.size + 1) (w.heap.size + 1 + 1) (.slice a xs.length c) xs one two := ⟨S1.cell (i := 2) rfl (o := 0) rfl, c2, c3, ⟨F, Ty.row_below hxr.out S1.below (Ty.row_lt hxr.out)⟩, hq1⟩
    have hdel := Lib.hid (deleteNone_any A cap _ _ _ _ _ _ _ _ hcaps)
    have hsm0 : Hid (smallS xs one two = []) := hsm.out.symm
    replace S1 := Lib.hid S1
    clear S0 hnames hA hM hcaps hb hsm
    go_wp2_with (go_at_call 18; refine (systemOk_any _ _).mono ?_; (first | rw [hq2] | rw [hq3]); rintro e w2 ⟨rfl, rfl⟩)
    refine hdel.out.mono ?_
    rintro e w3 ⟨rfl, hb3⟩
    have hB := (S1.out.grow hb3).below
    go_wp2_with fail
    go_ret2
    exact ⟨_, [], [], by rw [hok.out]; rfl, Ty.row_nil _ _ _ _ _ hcm, by simp, by simp, hB, by rw [hok.out]; exact hsm0.out.symm⟩
  · have S1 : Sp w w1 (DParts g w.heap.size (w.heap.size + 1) (w.heap.size + 1 + 1) cur (.slice a xs.length c) one two) := S0.out.seq T
    have c2 := S1.cell (i := 2) rfl (o := 0) rfl
    have c3 := S1.cell (i := 1) rfl (o := 0) rfl
    have hdel := Lib.hid (deleteStr_any S1 hxr.out hq1 hN hcs hn hnc hcm)
    have hgn : Hid (∀ n ∈ smallS xs one two, stOk n) := fun n hn => by
      obtain ⟨r, hr, _, _, _, rfl⟩ := mem_smallS.1 hn
      exact (hg _ hr).1
    clear S0 S1 hnames hA hM T hN hcs
    go_wp2_with (go_at_call 18; refine (systemOk_any _ _).mono ?_; (first | rw [hq2] | rw [hq3]); rintro e w2 ⟨rfl, rfl⟩)
    refine hdel.out.mono ?_
    rintro e w3 ⟨cur', ns', rfl, S3, hN3, hc3, hns⟩
    have hys : ns' = smallS xs one two := hns.trans hsm.out
    have hle : ns'.length ≤ cap := by
      rw [hns]; exact Nat.le_trans (List.length_filter_le _ _) hnc
    have hB := S3.below
    have hgb := (S3.box (i := 0) rfl).1
    have hrow : Hid (∃ Fb, stTy.row true w3 (.slice (some ⟨g, 0, none⟩) ns'.length cap) ns' Fb ∧ Fb.Nodup ∧ ∀ b ∈ Fb, w.heap.size ≤ b) := by
      by_cases h0 : ns' = []
      · rw [h0]
        exact ⟨[], Ty.row_nil _ _ _ _ _ hcm, by simp, by simp⟩
      · exact ⟨[g], row_st_mk (fun y hy => hgn.out y (hys ▸ hy)) hle hcm h0 (fun j hj => by rw [Nat.zero_add]; exact ⟨S3.cell (i := 0) rfl (hN3 j hj), fun _ => S3.frozen (i := 0) rfl j⟩), by simp, by simpa using hgb⟩
    replace hys := Lib.hid hys
    clear S3 hN3 hns hle hgb hdel hgn hsm
    obtain ⟨Fb, h1, h2, h3⟩ := hrow.out
    replace h1 := Lib.hid h1
    clear hrow
    go_wp2_with fail
    go_ret2
    exact ⟨_, ns', Fb, by rw [hok.out]; rfl, h1.out, h2, h3, hB, by rw [hok.out]; exact hys.out⟩
end Go.Proofs.Ytcapiijpfoapkaa
