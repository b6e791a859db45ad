/- Contracts: a clause found in a closure, in the reference. -/
import Derived.Test.YtebpknekaljgnaaNwM
namespace Go.Proofs.Ytebpknekaljgnaa
open Go.RowKit

/-- Where a clause stands, or -1. -/
def FindPost (L : List (List Int)) (c : List Int) (w : World) (e : Ending) (w' : World) : Prop :=
  ∃ z : Int, e = .returned (.int .i64 z) ∧ Below w.heap.size w w' ∧ ((z = -1 ∧ c ∉ L) ∨ ∃ i : Nat, ∃ h : i < L.length, z = i ∧ L[i] = c)
theorem notin_step {L : List (List Int)} {c : List Int} {k : Nat} (hk : k < L.length) (h : c ∉ L.take k) (hne : L[k] ≠ c) : c ∉ L.take (k + 1) := by
  rw [List.take_succ_eq_append_getElem hk, List.mem_append, List.mem_singleton]
  rintro (h1 | h1)
  · exact h h1
  · exact hne h1.symm

set_option maxRecDepth 100000 in
set_option maxHeartbeats 2000000 in
theorem l10Find_any (lv u : Value) (a1 a2 a3 a4 a5 : Option Addr) (n1 n2 n3 n4 n5 c1 c2 c3 c4 c5 : Nat) (L : List (List Int)) (c : List Int) (F G : List Nat) (w : World) (hx : (Ty.slice Ty.int).row false w lv L F) (hy : Ty.int.row false w u c G) :
    Calls Try.prog 40 #[.agg #[lv, .slice a1 n1 c1, .slice a2 n2 c2, .slice a3 n3 c3, .slice a4 n4 c4, .slice a5 n5 c5], u] w (FindPost L c w) := by
  obtain ⟨a0, c0, rfl, hx1, hx2, hx3⟩ := row_slices hx
  obtain ⟨ua, uc, rfl, _, _⟩ := Ty.row_len hy
  have S0 := (Sp.start w).alloc_box #[.slice a0 L.length c0, .slice a1 n1 c1, .slice a2 n2 c2, .slice a3 n3 c3, .slice a4 n4 c4, .slice a5 n5 c5] 50
  replace S0 := Lib.hid S0
  have hyr := Lib.hid hy
  clear hx hy
  go_enter Try.func40, Try.ntmps40
  go_wp2_with fail
  go_loopw [5] (fun i wr => ∃ k : Nat, k ≤ L.length ∧ i = .int .i64 k ∧ Hid (c ∉ L.take k) ∧ Hid (Sp w wr [Box w.heap.size 50 #[.slice a0 L.length c0, .slice a1 n1 c1, .slice a2 n2 c2, .slice a3 n3 c3, .slice a4 n4 c4, .slice a5 n5 c5]])) (fun i _ => L.length - (intOf i).toNat)
  case atStart => exact ⟨0, Nat.zero_le _, rfl, by simp [Hid], S0⟩
  case round =>
    obtain ⟨k, hk, rfl, HN, HS⟩ := hrel
    clear S0
    have e0 := HS.out.cell (i := 0) rfl (o := 0) rfl
    by_cases hlt : k < L.length
    · rcases hx3 with ⟨rfl, rfl⟩ | ⟨hxn, b, off, rfl, _, hxc⟩
      · exact absurd hlt (by simp)
      obtain ⟨x, Fx, hc, hr, _⟩ := hxc k hlt
      obtain ⟨xa, xc, rfl, _, _⟩ := Ty.row_len hr
      have hB := HS.out.below
      have e1 := (hc.keep (hB.block b hc.lt)).1
      have hr2 := Ty.row_below hr hB (Ty.row_lt hr)
      have hy2 := Ty.row_below hyr.out hB (Ty.row_lt hyr.out)
      clear hxc hc hr hB
      by_cases he : L[k] = c
      · have hcall := Lib.hid (l1Same_at hr2 hy2 (decide_eq_true he))
        have hf : Hid (∃ i : Nat, ∃ h : i < L.length, (k : Int) = i ∧ L[i] = c) := ⟨k, hlt, rfl, he⟩
        clear he hr2 hy2
        go_wp2_with fail
        refine hcall.out.mono ?_
        rintro e w1 ⟨rfl, hb1⟩
        have hB := (HS.out.grow hb1).below
        go_wp2_with fail
        go_ret
        exact ⟨_, rfl, hB, .inr hf.out⟩
      · have hcall := Lib.hid (l1Same_at hr2 hy2 (decide_eq_false he))
        have HN2 := Lib.hid (notin_step hlt HN.out he)
        clear he hr2 hy2 HN
        go_wp2_with fail
        refine hcall.out.mono ?_
        rintro e w1 ⟨rfl, hb1⟩
        have HS2 := Lib.hid (HS.out.grow hb1)
        clear HS
        go_wp2_with fail
        go_roundw
        case rel => exact ⟨k + 1, by omega, by go_num, HN2, HS2⟩
        case measure => simp [intOf]; omega
    · obtain rfl : k = L.length := by omega
      have hn := HN.out
      rw [List.take_length] at hn
      replace hn := Lib.hid hn
      clear HN
      go_wp2_with fail
      go_ret
      exact ⟨_, rfl, HS.out.below, .inl ⟨rfl, hn.out⟩⟩

/-- The round of the empty clause. -/
structure RankAns (nar : Bool) (F0 : List (List Int)) (width : Int) (z : Int) (ok : Bool) : Prop where
  no : nar = false → z = 0 ∧ ok = false
  yes : nar = true → (ok = true ∧ ∃ k : Nat, z = (k : Int) ∧ rankR F0 width k []) ∨ (ok = false ∧ z = 0 ∧ ¬ ∃ r, inR F0 width r [])
theorem RankAns.one {nar : Bool} {F0 : List (List Int)} {width z z' : Int} {ok ok' : Bool} (h : RankAns nar F0 width z ok) (h' : RankAns nar F0 width z' ok') : z = z' ∧ ok = ok' := by
  cases nar
  · obtain ⟨a, b⟩ := h.no rfl
    obtain ⟨c, d⟩ := h'.no rfl
    exact ⟨a.trans c.symm, b.trans d.symm⟩
  · rcases h.yes rfl with ⟨a, k, rfl, hk⟩ | ⟨a, rfl, hk⟩ <;> rcases h'.yes rfl with ⟨b, k', rfl, hk'⟩ | ⟨b, rfl, hk'⟩
    · exact ⟨by rw [rank_one hk hk'], a.trans b.symm⟩
    · exact absurd ⟨k, hk.1⟩ hk'
    · exact absurd ⟨k', hk'.1⟩ hk
    · exact ⟨rfl, a.trans b.symm⟩
def RankPost (nar : Bool) (F0 : List (List Int)) (width : Int) (w : World) (e : Ending) (w' : World) : Prop := ∃ z ok, e = .returned (.tuple #[.int .i64 z, .bool ok]) ∧ RankAns nar F0 width z ok ∧ Below w.heap.size w w'

set_option maxRecDepth 100000 in
set_option maxHeartbeats 4000000 in
theorem specRounds_any (vars : Int) (v : Value) (F0 : List (List Int)) (F : List Nat) (w : World) (hx : (Ty.slice Ty.int).row false w v F0 F) :
    Calls Try.prog 17 #[.agg #[.int .i64 vars, v]] w (RankPost (narB vars F0) F0 6 w) := by
  obtain ⟨a, cp, rfl, _, _⟩ := Ty.row_len hx
  have S0 := (Sp.start w).alloc_box #[.int .i64 vars, .slice a F0.length cp] 29
  replace S0 := Lib.hid S0
  have hxr := Lib.hid hx
  cases hq1 : narB vars F0
  · go_enter Try.func17, Try.ntmps17
    go_wp2_with fail
    refine (l10Good_any vars _ F0 F _ (Ty.row_below hxr.out S0.out.below (Ty.row_lt hxr.out))).mono ?_
    rw [hq1]
    rintro e w1 ⟨rfl, hb1⟩
    have S1 := Lib.hid (S0.out.grow hb1)
    go_wp2_with fail
    go_ret2
    exact ⟨_, _, rfl, ⟨fun _ => ⟨rfl, rfl⟩, fun h => (by cases h)⟩, S1.out.below⟩
  obtain ⟨hG, h60⟩ := nar_good hq1
  replace hG := Lib.hid hG
  go_enter Try.func17, Try.ntmps17
  go_wp2_with fail
  refine (l10Good_any vars _ F0 F _ (Ty.row_below hxr.out S0.out.below (Ty.row_lt hxr.out))).mono ?_
  rw [hq1]
  rintro e w1 ⟨rfl, hb1⟩
  have S1 := S0.out.grow hb1
  have c0 := S1.cell (i := 0) rfl (o := 0) rfl
  have d1 := S1.cell (i := 0) rfl (o := 1) rfl
  replace S1 := Lib.hid S1
  clear S0 hb1 hx
  go_wp2_with fail
  refine (l10Closure_any vars 6 _ F0 F _ (Ty.row_below hxr.out S1.out.below (Ty.row_lt hxr.out)) hG.out (by decide) (by decide) (by omega)).mono ?_
  rintro e w3 ⟨lv, rv, av, bv, pv, sv, kl, ks, Kp, R, A, B, C, rfl, T3, hClo, hAsc, hsame, hml, hms⟩
  obtain ⟨la, lc, rfl, -, -⟩ := own_src (T3.own (i := 0) rfl)
  obtain ⟨ra, rc, rfl, -, -⟩ := own_src (T3.own (i := 1) rfl)
  obtain ⟨aa, ac, rfl, -, -⟩ := own_src (T3.own (i := 2) rfl)
  obtain ⟨ba, bc, rfl, -, -⟩ := own_src (T3.own (i := 3) rfl)
  obtain ⟨pa, pc, rfl, -, -⟩ := own_src (T3.own (i := 4) rfl)
  obtain ⟨sa, sc, rfl, -, -⟩ := own_src (T3.own (i := 5) rfl)
  have hlR : Hid (R.length = kl.length) := by
    obtain ⟨r, h1, _⟩ := hClo.at_
    have := h1.len
    rw [List.length_map] at this
    exact this
  have S2 := (S1.out.seq T3).alloc_box #[.slice la kl.length lc, .slice ra R.length rc, .slice aa A.length ac, .slice ba B.length bc, .slice pa C.length pc, .slice sa ks.length sc] 50
  have S3 := S2.own_made 3 1
  simp only [World.size_alloc] at S3
  have e1 := S3.cell (i := 1) rfl (o := 1) rfl
  obtain ⟨Fs, rs⟩ := S3.cls_row (i := 2) (j := 8) rfl rfl hml
  have hcall := l10Find_any _ (.slice (some ⟨w3.heap.size + 1, 0, none⟩) 0 0) ra aa ba pa sa R.length A.length B.length C.length ks.length rc ac bc pc sc (kl.map Prod.snd) [] Fs [] _ rs (Ty.row_nil _ _ _ _ _ (by decide))
  replace S3 := Lib.hid S3
  replace hcall := Lib.hid hcall
  replace hClo := Lib.hid hClo
  have k0 := S2.cell (i := 0) rfl (o := 0) rfl
  have k1 := S2.cell (i := 0) rfl (o := 1) rfl
  have k2 := S2.cell (i := 0) rfl (o := 2) rfl
  have k3 := S2.cell (i := 0) rfl (o := 3) rfl
  have k4 := S2.cell (i := 0) rfl (o := 4) rfl
  have k5 := S2.cell (i := 0) rfl (o := 5) rfl
  clear T3 S1 S2 hAsc hsame hml hms rs c0 d1 e1
  go_wp2_with fail
  refine hcall.out.mono ?_
  rintro e w4 ⟨z, rfl, hb4, hz⟩
  have S4 := S3.out.grow hb4
  have e1 := S4.cell (i := 1) rfl (o := 1) rfl
  clear hcall hb4 k0 k1 k2 k3 k4 k5 S3
  rcases hz with ⟨rfl, hno⟩ | ⟨i, hi, rfl, he⟩
  · have hA : Hid (RankAns true F0 6 0 false) := ⟨fun h => (by cases h), fun _ => .inr ⟨rfl, rfl, fun h => hno (hClo.out.mem.2 h)⟩⟩
    replace S4 := Lib.hid S4
    clear hno
    go_wp2_with fail
    go_ret2
    exact ⟨_, _, rfl, hA.out, S4.out.below⟩
  · obtain ⟨k, hk, hr⟩ := hClo.out.rank hi
    rw [he] at hr
    have hiR : i < R.length := (List.getElem?_eq_some_iff.1 hk).1
    obtain ⟨rg, rfl⟩ := own_ptr (S4.own (i := 3) rfl) (by omega)
    have e2 := own_cell (j := i) (u := .int .i64 k) (S4.own (i := 3) rfl) (by rw [List.getElem?_map, hk]; rfl)
    have hA : Hid (RankAns true F0 6 k true) := ⟨fun h => (by cases h), fun _ => .inl ⟨rfl, k, rfl, hr⟩⟩
    have hiI : (i : Int) < (R.length : Int) := by omega
    have hi0 : ¬ (i : Int) < 0 := by omega
    replace S4 := Lib.hid S4
    clear he hk hr hi
    go_wp2_with fail
    go_ret2
    exact ⟨_, _, rfl, hA.out, S4.out.below⟩
end Go.Proofs.Ytebpknekaljgnaa
