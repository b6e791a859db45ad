/- Contracts: diagrams in memory; valid ones; values. -/
import Derived.Test.YtgcdifabbaoomaaDgA
import Derived.Test.YtgcdifabbaoomaaFlatC
import Derived.Test.YtgcdifabbaoomaaMemB
import Derived.Test.YtgcdifabbaoomaaStrA
import Derived.Test.YtgcdifabbaoomaaSepA
import Derived.Test.YtgcdifabbaoomaaHTailB
import Derived.BigQuiet
import Derived.Lib.QuietBelow
import Derived.Lib.Hide
namespace Go.Proofs.Ytgcdifabbaoomaa
open Go.RowKit

/-- A node in memory: three cells. -/
def ndEnc (n : Nd) : List Value := [.int .i64 n.v, .int .i64 n.lo, .int .i64 n.hi]
def ndOk (n : Nd) : Prop := I64 n.v ∧ I64 n.lo ∧ I64 n.hi
abbrev ndTy : Ty Nd := Ty.flat 3 ndEnc ndOk (fun _ => rfl)
abbrev ndV (n : Nd) : Value := .agg #[.int .i64 n.v, .int .i64 n.lo, .int .i64 n.hi]
/-- The three cells of each node. -/
theorem row_nd {wr : Bool} {w : World} {v : Value} {xs : List Nd} {F : List Nat} (h : ndTy.row wr w v xs F) :
    ∃ a cap, v = .slice a xs.length cap ∧ xs.length ≤ cap ∧ cap ≤ 9223372036854775807 ∧ (∀ x ∈ xs, ndOk x) ∧
      ((xs = [] ∧ F = []) ∨ (xs ≠ [] ∧ ∃ b off, a = some ⟨b, off, none⟩ ∧ F = [b] ∧ ∀ j (hj : j < xs.length), cellIs wr w b (off + j * 3) (.int .i64 xs[j].v) ∧ cellIs wr w b (off + j * 3 + 1) (.int .i64 xs[j].lo) ∧ cellIs wr w b (off + j * 3 + 2) (.int .i64 xs[j].hi))) := by
  obtain ⟨a, cap, rfl, h1, h2, h3, h4⟩ := row_flat h
  refine ⟨a, cap, rfl, h1, h2, h3, h4.imp id ?_⟩
  rintro ⟨_, hne, b, off, rfl, rfl, hc⟩
  exact ⟨hne, b, off, rfl, rfl, fun j hj => ⟨hc j hj 0 _ rfl, by have := hc j hj 1 _ rfl; rwa [← Nat.add_assoc] at this, by have := hc j hj 2 _ rfl; rwa [← Nat.add_assoc] at this⟩⟩
/-- A diagram as a value. -/
abbrev dgV (r : Int) (v : Value) : Value := .agg #[.int .i64 r, v]
/-- The nodes of a slice can be read. -/
structure NdAt (w : World) (A : Option Addr) (ns : List Nd) : Prop where
  at_ : ∀ j (hj : j < ns.length), ∃ b off, A = some ⟨b, off, none⟩ ∧ w.cell? ⟨b, off + j * 3, none⟩ = some (.int .i64 ns[j].v) ∧ w.cell? ⟨b, off + j * 3 + 1, none⟩ = some (.int .i64 ns[j].lo) ∧ w.cell? ⟨b, off + j * 3 + 2, none⟩ = some (.int .i64 ns[j].hi)
  ok : ∀ x ∈ ns, ndOk x
theorem nd_at {wr : Bool} {w : World} {v : Value} {xs : List Nd} {F : List Nat} (h : ndTy.row wr w v xs F) : ∃ A c, v = .slice A xs.length c ∧ xs.length ≤ c ∧ c ≤ 9223372036854775807 ∧ NdAt w A xs := by
  obtain ⟨a, c, rfl, h1, h2, h3, h4⟩ := row_nd h
  refine ⟨a, c, rfl, h1, h2, ⟨fun j hj => ?_, h3⟩⟩
  rcases h4 with ⟨rfl, _⟩ | ⟨_, b, off, rfl, _, hc⟩
  · exact absurd hj (by simp)
  · obtain ⟨p0, p1, p2⟩ := hc j hj
    exact ⟨b, off, rfl, p0.1, p1.1, p2.1⟩
theorem NdAt.grow {w w' : World} {A : Option Addr} {ns : List Nd} (h : NdAt w A ns) (hb : Below w.heap.size w w') : NdAt w' A ns := by
  refine ⟨fun j hj => ?_, h.ok⟩
  obtain ⟨b, off, e, h1, h2, h3⟩ := h.at_ j hj
  exact ⟨b, off, e, (hb.cell (World.block_lt_of_cell? _ _ h1)).trans h1, (hb.cell (World.block_lt_of_cell? _ _ h2)).trans h2, (hb.cell (World.block_lt_of_cell? _ _ h3)).trans h3⟩

theorem within_b {x a b : Int} {q : Bool} (h : inB x a b = q) (w : World) : Calls Try.prog 61 #[.int .i64 x, .int .i64 a, .int .i64 b] w fun e w' => e = .returned (.bool q) ∧ Below w.heap.size w w' :=
  (within_any x a b w).mono fun e w' ⟨h1, h2⟩ => ⟨by rw [h1, h], h2 ▸ bb _⟩
theorem isVar_any (n x : Int) (w : World) : Calls Try.prog 43 #[.int .i64 n, .int .i64 x] w fun e w' => e = .returned (.bool (inB x 1 n)) ∧ w = w' := by
  go_enter Try.func43, Try.ntmps43
  go_wp2_with (go_at_call 61; refine (within_any _ _ _ _).mono ?_; rintro e w1 ⟨rfl, rfl⟩)
  go_ret
  exact ⟨rfl, rfl⟩

/-- Whether a number may stand in node i of this variable. -/
def kidB (ns : List Nd) (v : Int) (i : Nat) (k : Int) : Bool := inB k 0 (i + 1) && under ns v k
theorem ndB_kids {vars : Int} {ns : List Nd} {i : Nat} (hi : i < ns.length) : ndB vars ns i = (inB ns[i].v 1 vars && kidB ns ns[i].v i ns[i].lo && kidB ns ns[i].v i ns[i].hi) := by
  unfold ndB kidB
  rw [List.getD_eq_getElem?_getD, List.getElem?_eq_getElem hi]
  simp only [Option.getD_some]
  cases inB ns[i].v 1 vars <;> cases inB ns[i].lo 0 (i + 1) <;> cases inB ns[i].hi 0 (i + 1) <;> simp

set_option maxRecDepth 100000 in
set_option maxHeartbeats 4000000 in
theorem bddOk_any (vars r : Int) (A : Option Addr) (c : Nat) (ns : List Nd) (i : Nat) (w : World) (hx : NdAt w A ns) (hi : i < ns.length) (hl : ns.length ≤ 1000000) :
    Calls Try.prog 77 #[.int .i64 vars, dgV r (.slice A ns.length c), .int .i64 i] w fun e w' => e = .returned (.bool (ndB vars ns i)) ∧ Below w.heap.size w w' := by
  obtain ⟨b, off, rfl, k0, k1, k2⟩ := hx.at_ i hi
  have hbl : b < w.heap.size := World.block_lt_of_cell? _ _ k0
  obtain ⟨hov, hol, hoh⟩ := hx.ok _ (List.getElem_mem hi)
  have hR := Lib.hid (ndB_kids (vars := vars) hi)
  obtain ⟨n, hn⟩ : ∃ n, ns[i] = n := ⟨_, rfl⟩
  rw [hn] at k0 k1 k2 hR hov hol hoh
  obtain ⟨v, lo, hi'⟩ := n
  dsimp only at k0 k1 k2 hR hov hol hoh
  go_enter Try.func77, Try.ntmps77
  go_wp2_with fail
  have S0 := (((Sp.start w).alloc_box #[.int .i64 r, .slice (some ⟨b, off, none⟩) ns.length c] 26).alloc_box #[.int .i64 v, .int .i64 lo, .int .i64 hi'] 67).alloc_box #[.int .i64 lo, .int .i64 hi'] 3
  simp only [World.size_alloc] at S0
  replace S0 := Lib.hid S0
  have hnI : Hid (NdAt w (some ⟨b, off, none⟩) ns) := hx
  clear k0 k1 k2 hx
  go_loopw [21] (fun j wr => ∃ q : Nat, q ≤ 2 ∧ j = .int .i64 q ∧ Hid ((1 ≤ q → kidB ns v i lo = true) ∧ (2 ≤ q → kidB ns v i hi' = true)) ∧ Hid (Sp w wr [Box (w.heap.size + 1 + 1) 3 #[.int .i64 lo, .int .i64 hi'], Box (w.heap.size + 1) 67 #[.int .i64 v, .int .i64 lo, .int .i64 hi'], Box w.heap.size 26 #[.int .i64 r, .slice (some ⟨b, off, none⟩) ns.length c]])) (fun j _ => 2 - (intOf j).toNat)
  case atStart => exact ⟨0, by omega, rfl, ⟨fun h => absurd h (by decide), fun h => absurd h (by decide)⟩, S0⟩
  case round =>
    obtain ⟨q, hq, rfl, HD, HS⟩ := hrel
    clear S0
    by_cases hlt : q < 2
    · obtain ⟨κ, hκ, hc, hyes, hno⟩ : ∃ κ, I64 κ ∧ wr.cell? ⟨w.heap.size + 1 + 1, q, none⟩ = some (.int .i64 κ) ∧ Hid (kidB ns v i κ = true → ((1 ≤ q + 1 → kidB ns v i lo = true) ∧ (2 ≤ q + 1 → kidB ns v i hi' = true))) ∧ Hid (kidB ns v i κ = false → ndB vars ns i = false) := by
        obtain rfl | rfl : q = 0 ∨ q = 1 := by omega
        · exact ⟨lo, hol, HS.out.cell (i := 0) rfl rfl, fun h => ⟨fun _ => h, fun h => absurd h (by decide)⟩, fun h => by rw [hR.out, h]; simp⟩
        · exact ⟨hi', hoh, HS.out.cell (i := 0) rfl rfl, fun h => ⟨fun _ => HD.out.1 (by decide), fun _ => h⟩, fun h => by rw [hR.out, h]; simp⟩
      have c1 := cell_regrown hc
      have d0 := cell_regrown (HS.out.cell (i := 1) rfl (o := 0) rfl)
      have e1 := cell_regrown (HS.out.cell (i := 2) rfl (o := 1) rfl)
      obtain ⟨hκ0, hκ1⟩ := hκ
      have hadd : IntKind.i64.wrap ((i : Int) + 1) = (i : Int) + 1 := IntWalk.i64_in _ (by omega)
      cases hin : inB κ 0 ((i : Int) + 1)
      · have hF := hno.out (by unfold kidB; rw [hin]; rfl)
        clear hno hyes
        go_wp2_with fail
        refine wp_region_quiet_below (by kernel_rfl) (by kernel_rfl) ?_
        repeat (any_goals (go_big_quiet_step ((go_at_call 61; exact Calls.regrown_of (within_b hin _)))))
        refine wpQuiet_nil ?_
        rintro w1 ⟨p, rfl⟩
        have HS2 := Lib.hid (HS.out.grow (below_regrown _ p.d p.os))
        clear HS c1 d0 e1
        go_wp2_with fail
        go_ret
        exact ⟨ret_bool hF.symm, HS2.out.below⟩
      obtain ⟨hi0, hi1⟩ := inB_def.1 hin
      by_cases h2 : (2 : Int) ≤ κ
      · obtain ⟨m, hκm⟩ : ∃ m : Nat, κ = (m : Int) + 2 := ⟨(κ - 2).toNat, by omega⟩
        have hm : m < ns.length := by omega
        have hsub : IntKind.i64.wrap (κ - 2) = (m : Int) := by rw [IntWalk.i64_in _ (by omega)]; omega
        obtain ⟨b', off', e, m0, _, _⟩ := (hnI.out.grow HS.out.below).at_ m hm
        cases e
        have m0' := cell_regrown m0
        have hun : under ns v κ = !decide (ns[m].v ≤ v) := by
          unfold under
          rw [hκm]
          rw [show ((m : Int) + 2 - 2).toNat = m by omega, List.getD_eq_getElem?_getD, List.getElem?_eq_getElem hm]
          simp only [Option.getD_some]
          rw [show decide ((m : Int) + 2 < 2) = false by simp; omega, Bool.false_or]
          by_cases h : v < ns[m].v
          · rw [decide_eq_true h, decide_eq_false (by omega)]; rfl
          · rw [decide_eq_false h, decide_eq_true (by omega)]; rfl
        generalize ns[m].v = mv at m0 m0' hun
        clear hn hi0 hi1 hκm
        cases hle : decide (mv ≤ v)
        · have hD := Lib.hid (hyes.out (by unfold kidB; rw [hin, hun, hle]; rfl))
          clear hno hyes hun m0 HD
          go_wp2_with fail
          refine wp_region_quiet_below (by kernel_rfl) (by kernel_rfl) ?_
          repeat (any_goals (go_big_quiet_step ((go_at_call 61; exact Calls.regrown_of (within_b hin _)))))
          refine wpQuiet_nil ?_
          rintro w1 ⟨p, rfl⟩
          have HS2 := Lib.hid (HS.out.grow (below_regrown _ p.d p.os))
          clear HS c1 d0 e1 m0'
          go_wp2_with fail
          go_roundw
          case rel => exact ⟨q + 1, by omega, by go_num, hD, HS2⟩
          case measure => simp [intOf]; omega
        · have hF := hno.out (by unfold kidB; rw [hin, hun, hle]; rfl)
          clear hno hyes hun m0
          go_wp2_with fail
          refine wp_region_quiet_below (by kernel_rfl) (by kernel_rfl) ?_
          repeat (any_goals (go_big_quiet_step ((go_at_call 61; exact Calls.regrown_of (within_b hin _)))))
          refine wpQuiet_nil ?_
          rintro w1 ⟨p, rfl⟩
          have HS2 := Lib.hid (HS.out.grow (below_regrown _ p.d p.os))
          clear HS c1 d0 e1 m0'
          go_wp2_with fail
          go_ret
          exact ⟨ret_bool hF.symm, HS2.out.below⟩
      · have hD := Lib.hid (hyes.out (by unfold kidB under; rw [hin, decide_eq_true (by omega : κ < 2)]; rfl))
        have hge : decide ((2 : Int) ≤ κ) = false := decide_eq_false h2
        clear hno hyes HD
        go_wp2_with fail
        refine wp_region_quiet_below (by kernel_rfl) (by kernel_rfl) ?_
        repeat (any_goals (go_big_quiet_step ((go_at_call 61; exact Calls.regrown_of (within_b hin _)))))
        refine wpQuiet_nil ?_
        rintro w1 ⟨p, rfl⟩
        have HS2 := Lib.hid (HS.out.grow (below_regrown _ p.d p.os))
        clear HS c1 d0 e1
        go_wp2_with fail
        go_roundw
        case rel => exact ⟨q + 1, by omega, by go_num, hD, HS2⟩
        case measure => simp [intOf]; omega
    · obtain rfl : q = 2 := by omega
      have d0 := HS.out.cell (i := 1) rfl (o := 0) rfl
      have hR2 : Hid (ndB vars ns i = inB v 1 vars) := by unfold Hid; rw [hR.out, HD.out.1 (by decide), HD.out.2 (by decide)]; simp
      have hB := HS.out.below
      clear HS HD hR
      go_wp2_with (go_at_call 43; refine (isVar_any _ _ _).mono ?_; rintro e w1 ⟨rfl, rfl⟩)
      go_ret
      exact ⟨ret_bool hR2.out.symm, hB⟩

theorem nds_no {vars : Int} {ns : List Nd} {k : Nat} (hk : k < ns.length) (h : ndB vars ns k = false) : ndsB vars ns ns.length = false := by
  cases hh : ndsB vars ns ns.length
  · rfl
  · have := ndsB_ok.1 hh k hk
    rw [h] at this; cases this
theorem goodD_def (vars r : Int) (ns : List Nd) : goodD vars r ns = (inB vars 0 6 && decide (ns.length ≤ 63) && inB r 0 (ns.length + 1) && ndsB vars ns ns.length) := rfl

set_option maxRecDepth 100000 in
set_option maxHeartbeats 4000000 in
theorem isDiagram_any (vars r : Int) (A : Option Addr) (c : Nat) (ns : List Nd) (w : World) (hx : NdAt w A ns) (hl : ns.length ≤ 1000000) :
    Calls Try.prog 40 #[.int .i64 vars, dgV r (.slice A ns.length c)] w fun e w' => e = .returned (.bool (goodD vars r ns)) ∧ Below w.heap.size w w' := by
  have hR := Lib.hid (goodD_def vars r ns)
  have S0 := (Sp.start w).alloc_box #[.int .i64 r, .slice A ns.length c] 26
  have hB := S0.below
  cases h1 : inB vars 0 6
  · have hF : Hid (goodD vars r ns = false) := by unfold Hid; rw [hR.out, h1]; rfl
    clear S0
    go_enter Try.func40, Try.ntmps40
    go_wp2_with (go_at_call 61; refine (within_any _ _ _ _).mono ?_; rw [h1]; rintro e w1 ⟨rfl, rfl⟩)
    go_ret
    exact ⟨ret_bool hF.out.symm, hB⟩
  by_cases h2 : (63 : Int) < ns.length
  · have hF : Hid (goodD vars r ns = false) := by unfold Hid; rw [hR.out, decide_eq_false (by omega : ¬ ns.length ≤ 63)]; simp
    clear S0
    go_enter Try.func40, Try.ntmps40
    go_wp2_with (go_at_call 61; refine (within_any _ _ _ _).mono ?_; rw [h1]; rintro e w1 ⟨rfl, rfl⟩)
    go_ret
    exact ⟨ret_bool hF.out.symm, hB⟩
  cases h3 : inB r 0 ((ns.length : Int) + 1)
  · have hF : Hid (goodD vars r ns = false) := by unfold Hid; rw [hR.out, h3]; simp
    clear S0
    go_enter Try.func40, Try.ntmps40
    go_wp2_with (go_at_call 61; refine (within_any _ _ _ _).mono ?_; (first | rw [h1] | rw [h3]); rintro e w1 ⟨rfl, rfl⟩)
    go_ret
    exact ⟨ret_bool hF.out.symm, hB⟩
  have hR2 : Hid (goodD vars r ns = ndsB vars ns ns.length) := by
    unfold Hid; rw [hR.out, h1, h3, decide_eq_true (by omega : ns.length ≤ 63)]; simp
  replace S0 := Lib.hid S0
  have hN := Lib.hid hx
  clear hR hx hB
  go_enter Try.func40, Try.ntmps40
  go_wp2_with (go_at_call 61; refine (within_any _ _ _ _).mono ?_; (first | rw [h1] | rw [h3]); rintro e w1 ⟨rfl, rfl⟩)
  go_loopw [28] (fun i wr => ∃ k : Nat, k ≤ ns.length ∧ i = .int .i64 k ∧ Hid (ndsB vars ns k = true) ∧ Hid (Sp w wr [Box w.heap.size 26 #[.int .i64 r, .slice A ns.length c]])) (fun i _ => ns.length - (intOf i).toNat)
  case atStart => exact ⟨0, Nat.zero_le _, rfl, rfl, S0⟩
  case round =>
    obtain ⟨k, hk, rfl, HD, HS⟩ := hrel
    clear S0
    by_cases hlt : k < ns.length
    · have c0 := HS.out.cell (i := 0) rfl (o := 0) rfl
      have c1 := HS.out.cell (i := 0) rfl (o := 1) rfl
      have hcall := Lib.hid (bddOk_any vars r A c ns k wr (hN.out.grow HS.out.below) hlt hl)
      go_wp2_with fail
      refine hcall.out.mono ?_
      rintro e w1 ⟨rfl, hb1⟩
      have HS2 := Lib.hid (HS.out.grow hb1)
      cases hq : ndB vars ns k
      · have hF : Hid (goodD vars r ns = false) := by unfold Hid; rw [hR2.out]; exact nds_no hlt hq
        clear HS hcall HD hb1
        go_wp2_with fail
        go_ret
        exact ⟨ret_bool hF.out.symm, HS2.out.below⟩
      · have hD2 : Hid (ndsB vars ns (k + 1) = true) := by unfold Hid; rw [ndsB_succ, HD.out, hq]; rfl
        clear HS hcall HD hb1
        go_wp2_with fail
        go_roundw
        case rel => exact ⟨k + 1, by omega, by go_num, hD2, HS2⟩
        case measure => simp [intOf]; omega
    · obtain rfl : k = ns.length := by omega
      go_wp2_with fail
      go_ret
      exact ⟨ret_bool (by rw [hR2.out, HD.out]), HS.out.below⟩
end Go.Proofs.Ytgcdifabbaoomaa
