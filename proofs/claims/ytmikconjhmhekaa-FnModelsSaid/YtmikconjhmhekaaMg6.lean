/- Lemmas and contracts for a law, put together out of several texts: RsA CyF MdQ BrA MdU MdR TcA MdK MdA MdB. -/
import Derived.Test.YtmikconjhmhekaaMg3
import Derived.Lib.Hide
import Derived.Deep.QuietTactic
import Derived.BigQuiet
import Derived.Lib.QuietBelow
import Derived.Test.YtmikconjhmhekaaMg5
import Derived.Test.YtmikconjhmhekaaMg1
import Derived.Test.YtmikconjhmhekaaMg2
import Derived.Lib.SliceRun
import Derived.Shelf.SlicesE.Kit
import Derived.Test.YtmikconjhmhekaaMg4
import Derived.Deep.DeepCutAuto
/- Contracts: the laws' own comparisons of numbers. -/
namespace Go.Proofs.Ytmikconjhmhekaa
open Go.RowKit

theorem rBig_any (ca : Option Addr) (cl cc : Nat) (w : World) : Calls Try.prog 9 #[.slice ca cl cc] w fun e w' => e = .returned (.bool (decide ((65536 : Int) < (cl : Int)))) ∧ w' = w := by
  go_enter Try.func9, Try.ntmps9
  go_wp2_with fail
  go_ret
  exact ⟨rfl, rfl⟩

set_option maxRecDepth 100000 in
set_option maxHeartbeats 4000000 in
theorem rInts_same (A A' : Option Addr) (c c' : Nat) (ns : List Int) (w : World) (hx : IntsAt w A ns) (hy : IntsAt w A' ns) (hl : ns.length ≤ 1000000) :
    Calls Try.prog 15 #[.slice A ns.length c, .slice A' ns.length c'] w fun e w' => e = .returned (.bool true) ∧ Below w.heap.size w w' := by
  have hN := Lib.hid hx
  have hM := Lib.hid hy
  clear hx hy
  go_enter Try.func15, Try.ntmps15
  go_wp2_with fail
  go_loopw [5] (fun i wr => ∃ k : Nat, k ≤ ns.length ∧ i = .int .i64 k ∧ Hid (Below w.heap.size w wr)) (fun i _ => ns.length - (intOf i).toNat)
  case atStart => exact ⟨0, Nat.zero_le _, rfl, bb _⟩
  case round =>
    obtain ⟨k, hk, rfl, HS⟩ := hrel
    by_cases hlt : k < ns.length
    · obtain ⟨b, off, rfl, m0⟩ := (hN.out.grow HS.out).at_ k hlt
      obtain ⟨b', off', rfl, p0⟩ := (hM.out.grow HS.out).at_ k hlt
      have k0 := cell_regrown m0
      have q0 := cell_regrown p0
      generalize ns[k] = v at *
      clear m0 p0
      go_wp2_with fail
      refine wp_region_quiet_below (by kernel_rfl) (by kernel_rfl) ?_
      repeat (any_goals (go_big_quiet_step (fail)))
      refine wpQuiet_nil ?_
      rintro w3 ⟨p, rfl⟩
      have HS4 := Lib.hid (btr HS.out (below_regrown _ p.d p.os))
      clear HS k0 q0
      go_wp2_with fail
      go_roundw
      case rel => exact ⟨k + 1, by omega, by go_num, HS4⟩
      case measure => simp [intOf]; omega
    · obtain rfl : k = ns.length := by omega
      have hB := HS.out
      go_wp2_with fail
      go_ret
      exact ⟨rfl, hB⟩

set_option maxRecDepth 100000 in
set_option maxHeartbeats 4000000 in
theorem vInts_same (A A' : Option Addr) (c c' : Nat) (ns : List Int) (w : World) (hx : IntsAt w A ns) (hy : IntsAt w A' ns) (hl : ns.length ≤ 1000000) :
    Calls Try.prog 52 #[.slice A ns.length c, .slice A' ns.length c'] w fun e w' => e = .returned (.bool true) ∧ Below w.heap.size w w' := by
  have hN := Lib.hid hx
  have hM := Lib.hid hy
  clear hx hy
  go_enter Try.func52, Try.ntmps52
  go_wp2_with fail
  go_loopw [5] (fun i wr => ∃ k : Nat, k ≤ ns.length ∧ i = .int .i64 k ∧ Hid (Below w.heap.size w wr)) (fun i _ => ns.length - (intOf i).toNat)
  case atStart => exact ⟨0, Nat.zero_le _, rfl, bb _⟩
  case round =>
    obtain ⟨k, hk, rfl, HS⟩ := hrel
    by_cases hlt : k < ns.length
    · obtain ⟨b, off, rfl, m0⟩ := (hN.out.grow HS.out).at_ k hlt
      obtain ⟨b', off', rfl, p0⟩ := (hM.out.grow HS.out).at_ k hlt
      have k0 := cell_regrown m0
      have q0 := cell_regrown p0
      generalize ns[k] = v at *
      clear m0 p0
      go_wp2_with fail
      refine wp_region_quiet_below (by kernel_rfl) (by kernel_rfl) ?_
      repeat (any_goals (go_big_quiet_step (fail)))
      refine wpQuiet_nil ?_
      rintro w3 ⟨p, rfl⟩
      have HS4 := Lib.hid (btr HS.out (below_regrown _ p.d p.os))
      clear HS k0 q0
      go_wp2_with fail
      go_roundw
      case rel => exact ⟨k + 1, by omega, by go_num, HS4⟩
      case measure => simp [intOf]; omega
    · obtain rfl : k = ns.length := by omega
      have hB := HS.out
      go_wp2_with fail
      go_ret
      exact ⟨rfl, hB⟩
end Go.Proofs.Ytmikconjhmhekaa

/- Contracts: drawn Cnfs as inputs of laws. -/
namespace Go.Proofs.Ytmikconjhmhekaa
open Go.RowKit

section
variable {w0 w w' : World} {ps qs : List Asn} {A A' g cl cc : Nat} {ca : Option Addr}
theorem Sp.cur_laid (h : Sp w0 w ps) (ca : Option Addr) (cl cc : Nat) : Sp w0 (w.alloc (.cells #[.slice ca cl cc, .int .i64 0, .int .u64 0] 98)) (CurA 0 w.heap.size ca cl cc :: ps) :=
  h.new (bal (bb w) _) (F := [w.heap.size]) ⟨rfl, 0, 0, heap_alloc_new w _, Nat.le_refl 0, Int.le_refl 0, by omega⟩ (by simp)
theorem Sp.cs_call (h : Sp w0 w (CurA A g ca cl cc :: ps)) (k : CS w g ca cl cc A' w' qs) (hc : CodeOk w0 ca cl) (hs : cl ≤ 65536) : Sp w0 w' (qs ++ CurA A' g ca cl cc :: ps) := by
  have hb := ((h.cur (A' := A') (i := 0) rfl hc hs).2 w' k.cur k.chg).below
  obtain ⟨h1, F, ⟨F1, F2, rfl, hd, ⟨rfl, -⟩, h5⟩, h3⟩ := h
  have hg : g < w.heap.size := by
    obtain ⟨A0, h0⟩ := k.1
    exact h0.lt
  obtain ⟨k0, k1, k2, G, k3, k4⟩ := k
  have hk := sep_keep h5 fun b hm => k2.block b (sep_lt h5 b hm) fun hb => by
    obtain rfl : b = g := by simpa using hb
    exact hd b (by simp) hm
  refine ⟨hb, G ++ ([g] ++ F2), sep_append k3 ⟨[g], F2, rfl, hd, ⟨rfl, k1.ok⟩, hk⟩ (fun b hb hb2 => ?_), fun b hb => ?_⟩
  · have := k4 b hb
    rcases List.mem_append.1 hb2 with h' | h'
    · obtain rfl : b = g := by simpa using h'
      omega
    · have := sep_lt h5 b h'; omega
  · rcases List.mem_append.1 hb with hb | hb
    · have := k4 b hb; have := h1.size; omega
    · exact h3 b hb
end
/-- A drawn Cnf of its own. -/
def CnfD (w : World) (e : Ending) (w' : World) : Prop := ∃ (vars : Int) (B : Option Addr) (cap : Nat) (cs : List Value) (xss : List (List Int)), e = .returned (.agg #[.int .i64 vars, .slice B xss.length cap]) ∧ -1 ≤ vars ∧ vars ≤ 13 ∧ xss.length ≤ 62 ∧ SmallR 13 xss ∧
  Sp w w' [Rows Ty.int 30 (.slice B xss.length cap) cs xss]

set_option maxRecDepth 100000 in
set_option maxHeartbeats 4000000 in
theorem drawIsCnf_any (ca : Option Addr) (cl cc : Nat) (w : World) (hc : CodeOk w ca cl) (hs : cl ≤ 65536) : Calls Try.prog 81 #[.slice ca cl cc] w (CnfD w) := by
  have S0 := ((Sp.start w).alloc_box #[.int .i64 0, .slice none 0 0] 26).cur_laid ca cl cc
  simp only [World.size_alloc] at S0
  have hi := Lib.hid (S0.cur (A' := 0) (i := 0) rfl hc hs).1
  replace S0 := Lib.hid S0
  go_enter Try.func81, Try.ntmps81
  go_wp2_with fail
  refine (cur_cnf 0 (w.heap.size + 1) ca cl cc _ hi.out (by omega)).mono ?_
  rintro e w1 ⟨vars, B, cap, cs, xss, rfl, hv0, hv1, hl, HC, T⟩
  replace HC := Lib.hid HC
  have S1 := S0.out.cs_call T hc hs
  clear T S0 hi
  have e0 := S1.cell (i := 2) rfl (o := 0) rfl
  have e1 := S1.cell (i := 2) rfl (o := 1) rfl
  have f0 := S1.frozen (i := 2) rfl 0
  have f1 := S1.frozen (i := 2) rfl 1
  have S6 := (S1.store (i := 2) rfl 0 (.int .i64 vars)).store (i := 2) rfl 1 (.slice B xss.length cap)
  have j0 := S6.cell (i := 2) rfl (o := 0) rfl
  have j1 := S6.cell (i := 2) rfl (o := 1) rfl
  have hR := Lib.hid (Sp.front (qs := [_]) S6)
  clear S6 S1
  go_wp2_with fail
  exact bodyPost_ret (v := .agg #[.int .i64 vars, .slice B xss.length cap]) (by simp [results, Try.results81, go_sem, j0, j1]) rfl ⟨vars, B, cap, cs, xss, rfl, hv0, hv1, hl, HC.out, hR.out⟩

set_option maxRecDepth 100000 in
set_option maxHeartbeats 4000000 in
theorem drawBackboneOf_any (ca : Option Addr) (cl cc : Nat) (w : World) (hc : CodeOk w ca cl) (hs : cl ≤ 65536) : Calls Try.prog 10 #[.slice ca cl cc] w (CnfD w) := by
  have S0 := (Sp.start w).alloc_box #[.int .i64 0, .slice none 0 0] 26
  have hd := Lib.hid (drawIsCnf_any ca cl cc _ (hc.grow S0.below) hs)
  replace S0 := Lib.hid S0
  go_enter Try.func10, Try.ntmps10
  go_wp2_with fail
  refine hd.out.mono ?_
  rintro e w1 ⟨vars, B, cap, cs, xss, rfl, hv0, hv1, hl, HC, T⟩
  replace HC := Lib.hid HC
  have S1 := S0.out.seq T
  clear T S0 hd
  have e0 := S1.cell (i := 1) rfl (o := 0) rfl
  have e1 := S1.cell (i := 1) rfl (o := 1) rfl
  have f0 := S1.frozen (i := 1) rfl 0
  have f1 := S1.frozen (i := 1) rfl 1
  have S6 := (S1.store (i := 1) rfl 0 (.int .i64 vars)).store (i := 1) rfl 1 (.slice B xss.length cap)
  have j0 := S6.cell (i := 1) rfl (o := 0) rfl
  have j1 := S6.cell (i := 1) rfl (o := 1) rfl
  have hR := Lib.hid (Sp.front (qs := [_]) S6)
  clear S6 S1
  go_wp2_with fail
  exact bodyPost_ret (v := .agg #[.int .i64 vars, .slice B xss.length cap]) (by simp [results, Try.results10, go_sem, j0, j1]) rfl ⟨vars, B, cap, cs, xss, rfl, hv0, hv1, hl, HC.out, hR.out⟩
end Go.Proofs.Ytmikconjhmhekaa

/- Contracts: clauses joined and resolved in the reference, told weakly. -/
namespace Go.Proofs.Ytmikconjhmhekaa
open Go.RowKit

/-- A row of its own within bounds, and a flag. -/
def JoinW (n : Nat) (w : World) (e : Ending) (w' : World) : Prop :=
  ∃ v c q, e = .returned (.tuple #[v, .bool q]) ∧ w'.ownsRow w.heap.size 3 1 v c.length (c.map (.int .i64)) ∧ c.length ≤ n ∧ Within 1000 c ∧ Below w.heap.size w w'
theorem Sp.drop2w {w0 w : World} {p q : Asn} {ps : List Asn} (h : Sp w0 w (p :: q :: ps)) : Sp w0 w (p :: ps) := h.swap.tail

set_option maxRecDepth 100000 in
set_option maxHeartbeats 4000000 in
theorem l2JoinW_any (v u : Value) (a b : List Int) (F G : List Nat) (w : World) (hx : Ty.int.row false w v a F) (hy : Ty.int.row false w u b G) (wa : Within 1000 a) (wb : Within 1000 b) (la : a.length ≤ 1000) (lb : b.length ≤ 1000) :
    Calls Try.prog 176 #[v, u] w (JoinW (a.length + b.length) w) := by
  obtain ⟨aa, ac, rfl, _, _⟩ := Ty.row_len hx
  obtain ⟨ba, bc, rfl, hy1, hy2, _, hy3⟩ := row_int hy
  go_enter Try.func176, Try.ntmps176
  go_wp2_with fail
  refine (l1Own_any _ a F w hx (by omega)).mono ?_
  rintro e w1 ⟨v1, rfl, ho1, hb1⟩
  have S0 := (Sp.start w).own_call hb1 ho1
  obtain ⟨a1, c1, rfl⟩ := owns_form ho1
  replace S0 := Lib.hid S0
  have hW0 := Lib.hid wa
  clear ho1 hb1
  go_wp2_with fail
  go_loopw [6, 7] (fun s i wr => ∃ (k : Nat) (out : List Int), k ≤ b.length ∧ i = .int .i64 k ∧ out.length ≤ a.length + k ∧ Hid (Within 1000 out) ∧ Hid (Sp w wr [Own 3 1 s out.length (out.map (.int .i64))])) (fun _ i _ => b.length - (intOf i).toNat)
  case atStart => exact ⟨0, a, Nat.zero_le _, rfl, by omega, hW0, S0⟩
  case round =>
    obtain ⟨k, out, hk, rfl, hol, HW, HS⟩ := hrel
    clear S0
    obtain ⟨sa, sc, rfl⟩ := owns_form (HS.out.own (i := 0) rfl)
    by_cases hlt : k < b.length
    · rcases hy3 with ⟨rfl, rfl⟩ | ⟨hyn, bk, off, rfl, rfl, hyc⟩
      · exact absurd hlt (by simp)
      have hB := HS.out.below
      have k0 := ((hyc k hlt).keep (hB.block bk (hyc k hlt).lt)).1
      have hl6 := wb _ (List.getElem_mem hlt)
      obtain ⟨H, hrow', -, -⟩ := own_row (HS.out.own (i := 0) rfl) (HW.out.i64 (by decide))
      have hrow := Ty.row_down hrow'
      obtain ⟨l, hl⟩ : ∃ l, l = b[k] := ⟨_, rfl⟩
      rw [← hl] at k0 hl6
      have hneg : wrap64 (-l) = -l := by unfold wrap64; omega
      have hl0 : -1000 ≤ l := hl6.1
      have hl1 : l ≤ 1000 := hl6.2
      replace hl := Lib.hid hl
      clear hyc hB hl hl6 hrow'
      cases hq : hasI out (-l)
      · cases hq2 : hasI out l
        · have HN := Lib.hid (within_put HW.out ⟨hl0, hl1⟩)
          have hpl := Lib.hid (put_len out l)
          have hol9 : out.length ≤ 1000000000 := by omega
          go_wp2_with (first
            | (go_at_call 101; (first | (with_reducible refine (l2Has_at hrow hq).mono ?_) | (with_reducible refine (l2Has_at hrow hq2).mono ?_)); rintro e w2 ⟨rfl, rfl⟩)
            | (go_at_call 203; (with_reducible refine (l2Put_any _ out l H _ hrow hol9).mono ?_); rintro e w2 ⟨v2, rfl, ho2, hb2⟩))
          have S1 := (HS.out.own_call hb2 ho2).drop2w
          obtain ⟨a2, c2, rfl⟩ := owns_form ho2
          replace S1 := Lib.hid S1
          clear ho2 hb2 HS hrow
          generalize putB out l = out2 at *
          go_wp2_with fail
          go_roundw
          case rel => exact ⟨k + 1, out2, by omega, by go_num, by rw [hpl.out]; omega, HN, S1⟩
          case measure => simp [intOf]; omega
        · go_wp2_with (first
            | (go_at_call 101; (first | (with_reducible refine (l2Has_at hrow hq).mono ?_) | (with_reducible refine (l2Has_at hrow hq2).mono ?_)); rintro e w2 ⟨rfl, rfl⟩))
          go_roundw
          case rel => exact ⟨k + 1, out, by omega, by go_num, by omega, HW, HS⟩
          case measure => simp [intOf]; omega
      · go_wp2_with (first
          | (go_at_call 101; (first | (with_reducible refine (l2Has_at hrow hq).mono ?_)); rintro e w2 ⟨rfl, rfl⟩))
        have S1 := Lib.hid (HS.out.own_made 3 1)
        go_ret2
        exact ⟨_, [], false, rfl, S1.out.owns_end (i := 0) rfl, by simp, fun x hx => by simp at hx, S1.out.below⟩
    · obtain rfl : k = b.length := by omega
      go_wp2_with fail
      go_ret2
      exact ⟨_, out, true, rfl, HS.out.owns_end (i := 0) rfl, by omega, HW.out, HS.out.below⟩

set_option maxRecDepth 100000 in
set_option maxHeartbeats 4000000 in
theorem l2ResolveW_any (x y : Value) (a b : List Int) (v : Int) (F G : List Nat) (w : World) (hx : Ty.int.row false w x a F) (hy : Ty.int.row false w y b G) (wa : Within 1000 a) (wb : Within 1000 b) (la : a.length ≤ 500) (lb : b.length ≤ 500) (h0 : -20 ≤ v) (h1 : v ≤ 20) :
    Calls Try.prog 102 #[x, y, .int .i64 v] w (JoinW (a.length + b.length) w) := by
  obtain ⟨aa, ac, rfl, _, _⟩ := Ty.row_len hx
  obtain ⟨ba, bc, rfl, _, _⟩ := Ty.row_len hy
  have hneg : wrap64 (-v) = -v := by unfold wrap64; omega
  cases hq : hasI a v
  · go_enter Try.func102, Try.ntmps102
    go_wp2_with (go_at_call 101; (with_reducible refine (l2Has_at hx hq).mono ?_); rintro e w2 ⟨rfl, rfl⟩)
    have S1 := Lib.hid ((Sp.start w).own_made 3 1)
    go_ret2
    exact ⟨_, [], false, rfl, S1.out.owns_end (i := 0) rfl, by simp, fun x hx => by simp at hx, S1.out.below⟩
  cases hq2 : hasI b (-v)
  · go_enter Try.func102, Try.ntmps102
    go_wp2_with (go_at_call 101; (first | (with_reducible refine (l2Has_at hx hq).mono ?_) | (with_reducible refine (l2Has_at hy hq2).mono ?_)); rintro e w2 ⟨rfl, rfl⟩)
    have S1 := Lib.hid ((Sp.start w).own_made 3 1)
    go_ret2
    exact ⟨_, [], false, rfl, S1.out.owns_end (i := 0) rfl, by simp, fun x hx => by simp at hx, S1.out.below⟩
  have g1 := Lib.hid (within_without wa v)
  have g2 := Lib.hid (within_without wb v)
  have l1 : (withoutB a v).length ≤ a.length := List.length_filter_le _ _
  have l2 : (withoutB b v).length ≤ b.length := List.length_filter_le _ _
  have hw1 := Lib.hid (l2Without_any _ a v F w hx (by omega))
  have hw2 := Lib.hid (fun W (h : Below w.heap.size w W) => l2Without_any _ b v G W (Ty.row_grow hy h) (by omega))
  generalize withoutB a v = a' at *
  generalize withoutB b v = b' at *
  go_enter Try.func102, Try.ntmps102
  go_wp2_with (go_at_call 101; (first | (with_reducible refine (l2Has_at hx hq).mono ?_) | (with_reducible refine (l2Has_at hy hq2).mono ?_)); rintro e w2 ⟨rfl, rfl⟩)
  refine hw1.out.mono ?_
  rintro e w1 ⟨v1, rfl, ho1, hb1⟩
  have S1 := (Sp.start w).own_call hb1 ho1
  obtain ⟨a1, c1, rfl⟩ := owns_form ho1
  replace S1 := Lib.hid S1
  clear ho1 hw1 hx hy
  go_wp2_with fail
  refine (hw2.out w1 hb1).mono ?_
  rintro e w2 ⟨v2, rfl, ho2, hb2⟩
  have S2 := S1.out.own_call hb2 ho2
  obtain ⟨a2, c2, rfl⟩ := owns_form ho2
  obtain ⟨H1, r1, -, -⟩ := own_row (S2.own (i := 1) rfl) (g1.out.i64 (by decide))
  obtain ⟨H2, r2, -, -⟩ := own_row (S2.own (i := 0) rfl) (g2.out.i64 (by decide))
  have hj := Lib.hid (l2JoinW_any _ _ _ _ H1 H2 w2 (Ty.row_down r1) (Ty.row_down r2) g1.out g2.out (by omega) (by omega))
  have hB2 := Lib.hid S2.below
  clear ho2 S1 S2 r1 r2 hw2 hb1 hb2
  go_wp2_with fail
  refine hj.out.mono ?_
  rintro e w3 ⟨v3, c, q, rfl, ho3, hc1, hc2, hb3⟩
  obtain ⟨a3, c3, rfl⟩ := owns_form ho3
  have hB3 := Lib.hid (btr hB2.out hb3)
  have hres : Hid (w3.ownsRow w.heap.size 3 1 (.slice a3 c.length c3) c.length (c.map (.int .i64))) := owns_base (owns_zero ho3) fun g hg => Nat.le_trans hB2.out.size (owns_ge ho3 g hg)
  replace hc2 := Lib.hid hc2
  clear hj ho3 hb3 hB2
  go_wp2_with fail
  go_ret2
  exact ⟨_, c, q, rfl, hres.out, by omega, hc2.out, hB3.out⟩
end Go.Proofs.Ytmikconjhmhekaa

/- A part of the memory brought to the front. No program in sight. -/
namespace Go.Proofs.Ytmikconjhmhekaa
open Go.RowKit

theorem sep_bring {w : World} : ∀ {ps : List Asn} {F : List Nat} {i : Nat} {q : Asn}, sep ps w F → ps[i]? = some q → ∃ F', sep (q :: ps.eraseIdx i) w F' ∧ ∀ b ∈ F', b ∈ F
  | [], _, _, _, _, h => by simp at h
  | p :: ps, F, 0, q, h, hi => by
    simp at hi; subst hi
    exact ⟨F, h, fun _ h => h⟩
  | p :: ps, _, i + 1, q, h, hi => by
    obtain ⟨F1, F2, rfl, hd, h1, h2⟩ := h
    obtain ⟨F', ⟨F3, F4, rfl, hd', h3, h4⟩, hs⟩ := sep_bring (i := i) h2 (by simpa using hi)
    refine ⟨F3 ++ (F1 ++ F4), ⟨F3, F1 ++ F4, rfl, fun b hb hb2 => ?_, h3, F1, F4, rfl, fun b hb hb2 => hd b hb (hs b (List.mem_append.2 (.inr hb2))), h1, h4⟩, fun b hb => ?_⟩
    · rcases List.mem_append.1 hb2 with h | h
      · exact hd b h (hs b (List.mem_append.2 (.inl hb)))
      · exact hd' b hb h
    · simp only [List.mem_append] at hb ⊢
      rcases hb with h | h | h
      · exact .inr (hs b (List.mem_append.2 (.inl h)))
      · exact .inl h
      · exact .inr (hs b (List.mem_append.2 (.inr h)))
section
variable {w0 w w' : World} {ps : List Asn} {i j : Nat} {q : Asn}
/-- A part is brought to the front. -/
theorem Sp.bring (h : Sp w0 w ps) (hi : ps[i]? = some q) : Sp w0 w (q :: ps.eraseIdx i) := by
  obtain ⟨h1, F, h2, h3⟩ := h
  obtain ⟨F', h4, h5⟩ := sep_bring h2 hi
  exact ⟨h1, F', h4, fun b hb => h3 b (h5 b hb)⟩
end
/-- Parts are picked, by their places in what is left. -/
def pickQ : List Nat → List Asn → Option (List Asn)
  | [], _ => some []
  | i :: is, ps => match ps[i]? with
    | none => none
    | some q => match pickQ is (ps.eraseIdx i) with
      | none => none
      | some qs => some (q :: qs)
theorem sep_pick {w : World} : ∀ {is : List Nat} {ps qs : List Asn} {F : List Nat}, sep ps w F → pickQ is ps = some qs → ∃ F', sep qs w F' ∧ ∀ b ∈ F', b ∈ F
  | [], _, _, _, _, hq => by
    simp only [pickQ, Option.some.injEq] at hq
    subst hq
    exact ⟨[], rfl, by simp⟩
  | i :: is, ps, qs, F, h, hq => by
    unfold pickQ at hq
    cases hi : ps[i]? with
    | none => rw [hi] at hq; cases hq
    | some q =>
      rw [hi] at hq
      simp only at hq
      cases hr : pickQ is (ps.eraseIdx i) with
      | none => rw [hr] at hq; cases hq
      | some rs =>
        rw [hr] at hq
        simp only [Option.some.injEq] at hq
        subst hq
        obtain ⟨F1, ⟨F2, F3, rfl, hd, h1, h2⟩, hs⟩ := sep_bring h hi
        obtain ⟨F4, h3, h4⟩ := sep_pick h2 hr
        exact ⟨F2 ++ F4, ⟨F2, F4, rfl, fun b hb hb4 => hd b hb (h4 b hb4), h1, h3⟩, fun b hb => by
          rcases List.mem_append.1 hb with hb | hb
          · exact hs b (List.mem_append.2 (.inl hb))
          · exact hs b (List.mem_append.2 (.inr (h4 b hb)))⟩
theorem Sp.pick {w0 w : World} {ps qs : List Asn} (is : List Nat) (h : Sp w0 w ps) (hq : pickQ is ps = some qs) : Sp w0 w qs := by
  obtain ⟨h1, F, h2, h3⟩ := h
  obtain ⟨F', h4, h5⟩ := sep_pick h2 hq
  exact ⟨h1, F', h4, fun b hb => h3 b (h5 b hb)⟩
end Go.Proofs.Ytmikconjhmhekaa

/- Contract: the drawn Cnf and clause of ImpliesClause. -/
namespace Go.Proofs.Ytmikconjhmhekaa
open Go.RowKit

/-- A drawn Cnf and a row of numbers, of its own. -/
def ImpD (w : World) (e : Ending) (w' : World) : Prop := ∃ (vars : Int) (B : Option Addr) (cap : Nat) (cs : List Value) (xss : List (List Int)) (D : Option Addr) (dc : Nat) (d : List Int),
  e = .returned (.tuple #[.agg #[.int .i64 vars, .slice B xss.length cap], .slice D d.length dc]) ∧ -1 ≤ vars ∧ vars ≤ 13 ∧ xss.length ≤ 62 ∧ SmallR 13 xss ∧ d.length ≤ 1000 ∧ (∀ x ∈ d, I64 x) ∧
  Sp w w' [Own 3 1 (.slice D d.length dc) d.length (d.map (.int .i64)), Rows Ty.int 30 (.slice B xss.length cap) cs xss]
theorem rows_get {w0 W : World} {ps : List Asn} {i : Nat} {e : TypeId} {B : Option Addr} {cap : Nat} {cs : List Value} {xss : List (List Int)} (h : Sp w0 W ps) (hi : ps[i]? = some (Rows Ty.int e (.slice B xss.length cap) cs xss)) {j : Nat} (hj : j < xss.length) :
    ∃ E c F, cs[j]? = some (.slice E xss[j].length c) ∧ Ty.int.row false W (.slice E xss[j].length c) xss[j] F := by
  obtain ⟨F, ⟨G, -, -, hall, -⟩, -⟩ := h.get hi
  obtain ⟨c, d, e', F1, F2, F3, rfl, -, hl, -, ⟨v, rfl, hr⟩, -⟩ := Ty.all_split hall j hj
  obtain ⟨E, cc, rfl, -, -⟩ := Ty.row_len hr
  have hl2 : c.length = j := by rw [hl]; exact Nat.mul_one j
  exact ⟨E, cc, F2, by subst hl2; simp, Ty.row_down hr⟩
theorem rows_cell {w0 W : World} {ps : List Asn} {i : Nat} {e : TypeId} {B : Option Addr} {cap : Nat} {cs : List Value} {xss : List (List Int)} (h : Sp w0 W ps) (hi : ps[i]? = some (Rows Ty.int e (.slice B xss.length cap) cs xss)) {rb : Nat} (hB : B = some ⟨rb, 0, none⟩) :
    ∀ j u, cs[j]? = some u → W.cell? ⟨rb, j, none⟩ = some u := by
  subst hB
  intro j u hu
  have ho := h.rows hi
  have hjl := (List.getElem?_eq_some_iff.1 hu).1
  have hn : cs.length = xss.length := by have := ho.1; omega
  obtain ⟨g, cap', cur, e1, -, hh, -, -, -, ht⟩ := own_block ho (by omega)
  simp only [Value.slice.injEq, Option.some.injEq, Addr.mk.injEq] at e1
  obtain ⟨⟨rfl, -⟩, -, rfl⟩ := e1
  rw [(own_at hh ht (o := j) (by omega)).1]; exact hu
theorem good_within {vars : Int} {xss : List (List Int)} (h : goodB vars xss = true) {j : Nat} (hj : j < xss.length) : Within 1000 xss[j] ∧ xss[j].length ≤ 500 := by
  have hg := good_cnf h
  have hc := clause_parts (hg.2.2.1 _ (List.getElem_mem hj))
  have hl := rising_len (m := 12) (k := 1) (clause_rising (hg.2.2.1 _ (List.getElem_mem hj))) (fun l hl => by have := hc.2.1 l hl; omega)
  have h2 := hg.2.2.2 _ (List.getElem_mem hj)
  exact ⟨fun x hx => ⟨(h2.1 x hx).2.1, (h2.1 x hx).2.2⟩, by omega⟩

set_option maxRecDepth 100000 in
set_option maxHeartbeats 16000000 in
theorem drawImplies_any (ca : Option Addr) (cl cc : Nat) (w : World) (hc : CodeOk w ca cl) (hs : cl ≤ 65536) : Calls Try.prog 21 #[.slice ca cl cc] w (ImpD w) := by
  have S0 := ((Sp.start w).alloc_box #[.int .i64 0, .slice none 0 0] 26).cur_laid ca cl cc
  simp only [World.size_alloc] at S0
  have hi := Lib.hid (S0.cur (A' := 0) (i := 0) rfl hc hs).1
  obtain ⟨gc, hgc⟩ : ∃ gc, w.heap.size + 1 = gc := ⟨_, rfl⟩
  rw [hgc] at S0 hi
  replace S0 := Lib.hid S0
  have hcH := Lib.hid hc
  clear hc
  go_enter Try.func21, Try.ntmps21
  go_wp2_with fail
  refine (cur_cnf 0 gc ca cl cc _ hi.out (by omega)).mono ?_
  rintro e w1 ⟨vars, B, cap, cs, xss, rfl, hv0, hv1, hl, HC, T⟩
  replace HC := Lib.hid HC
  have S1 := (S0.out.cs_call T hcH.out hs).alloc_box #[.int .i64 vars, .slice B xss.length cap] 26
  clear T S0 hi
  obtain ⟨fb, hfb⟩ : ∃ fb, w1.heap.size = fb := ⟨_, rfl⟩
  rw [hfb] at S1
  have S2 : Hid (Sp w (w1.alloc (.cells #[.int .i64 vars, .slice B xss.length cap] 26)) [Box fb 26 #[.int .i64 vars, .slice B xss.length cap], Rows Ty.int 30 (.slice B xss.length cap) cs xss, CurA 2000 gc ca cl cc, Box w.heap.size 26 #[.int .i64 0, .slice none 0 0]]) := S1
  clear S1
  have c0 := S2.out.cell (i := 0) rfl (o := 0) rfl
  have c1 := S2.out.cell (i := 0) rfl (o := 1) rfl
  go_upto_region 3 with fail
  go_cut [27] (fun s wx => ∃ b : Bool, s = .bool b ∧ Hid (b = true → 1 < xss.length ∧ goodB vars xss = true) ∧ Hid (Sp w wx [Box fb 26 #[.int .i64 vars, .slice B xss.length cap], Rows Ty.int 30 (.slice B xss.length cap) cs xss, CurA 2010 gc ca cl cc, Box w.heap.size 26 #[.int .i64 0, .slice none 0 0]]))
  case first =>
    by_cases hlen : (1 : Int) < (xss.length : Int)
    · have d1 : decide ((1 : Int) < (xss.length : Int)) = true := decide_eq_true hlen
      obtain ⟨F, hrow, -⟩ := S2.out.rows_done (i := 1) rfl
      have hgood := Lib.hid (l2Good_any vars _ xss F _ (Ty.row_down hrow))
      clear hrow
      cases hg : goodB vars xss
      · rw [hg] at hgood
        go_wp2_with fail
        refine hgood.out.mono ?_
        rintro e w2 ⟨rfl, hb2⟩
        have S3 := S2.out.grow hb2
        have S4 := Lib.hid ((S3.cur (A' := 2010) (i := 2) rfl hcH.out hs).2 w2 ((S3.cur (A' := 2010) (i := 2) rfl hcH.out hs).1.mono (by omega)) (Chg.refl _ _))
        clear S2 S3 hgood hb2 c0 c1
        go_wp2_with fail
        go_meet
        exact ⟨false, rfl, (fun h => by cases h), S4⟩
      · rw [hg] at hgood
        go_wp2_with fail
        refine hgood.out.mono ?_
        rintro e w2 ⟨rfl, hb2⟩
        have S3 := Lib.hid (S2.out.grow hb2)
        have hcu := (S3.out.cur (A' := 2010) (i := 2) rfl hcH.out hs).1
        clear S2 hgood hb2 c0 c1
        go_wp2_with fail
        refine (cur_one 2 _ gc ca cl cc _ hcu (by omega) (by omega)).mono ?_
        rintro e w3 ⟨_, ⟨q, rfl⟩, rfl, hi3, hc3⟩
        have S4 := Lib.hid ((S3.out.cur (A' := 2010) (i := 2) rfl hcH.out hs).2 w3 (hi3.mono (by omega)) hc3)
        clear S3 hcu hi3 hc3
        go_wp2_with fail
        go_meet
        exact ⟨q, rfl, fun _ => ⟨by omega, hg⟩, S4⟩
    · have d1 : decide ((1 : Int) < (xss.length : Int)) = false := decide_eq_false hlen
      have S3 := S2.out
      have S4 := Lib.hid ((S3.cur (A' := 2010) (i := 2) rfl hcH.out hs).2 _ ((S3.cur (A' := 2010) (i := 2) rfl hcH.out hs).1.mono (by omega)) (Chg.refl _ _))
      clear S2 S3
      go_wp2_with fail
      go_meet
      exact ⟨false, rfl, (fun h => by cases h), S4⟩
  case rest =>
  clear S2 c0 c1
  obtain ⟨b, rfl, hb, HS⟩ := hcut
  go_upto_if 27 with fail
  go_cut [] (fun wx => Hid (Sp w wx [Box fb 26 #[.int .i64 vars, .slice B xss.length cap], Rows Ty.int 30 (.slice B xss.length cap) cs xss, CurA 2030 gc ca cl cc, Box w.heap.size 26 #[.int .i64 0, .slice none 0 0]]))
  case first =>
    cases b
    · have S3 := HS.out
      have S4 := Lib.hid ((S3.cur (A' := 2030) (i := 2) rfl hcH.out hs).2 _ ((S3.cur (A' := 2030) (i := 2) rfl hcH.out hs).1.mono (by omega)) (Chg.refl _ _))
      clear S3 HS
      go_wp2_with fail
      go_meet
      exact S4
    · obtain ⟨hn1, hg⟩ := hb.out rfl
      clear hb
      obtain ⟨rb, cap', cur, e1, -⟩ := own_block (HS.out.rows (i := 1) rfl) (by omega)
      simp only [Value.slice.injEq] at e1
      obtain ⟨rfl, -, rfl⟩ := e1
      have l1 := HS.out.cell (i := 0) rfl (o := 1) rfl
      have hgw := Lib.hid (fun j (hj : j < xss.length) => good_within hg hj)
      clear hg
      go_wp2_with fail
      refine wp_region_held_lit (S := (fun w' => w'.cell? ⟨fb, 1, none⟩ = some (.slice (some ⟨rb, 0, none⟩) xss.length cap) ∧ ∀ j u, cs[j]? = some u → w'.cell? ⟨rb, j, none⟩ = some u)) 20 [false, false, false, false, false, false, false, false, false, false, false, false, false, false, false, false, false, false, false, false] (by kernel_rfl) (by kernel_rfl) (by kernel_rfl) ?_ ?_
      · exact ⟨l1, rows_cell HS.out (i := 1) rfl rfl⟩
      intro hSc
      (refine wpAnyH_take (i := 0) (v := ?_) rfl (by kernel_rfl) (by kernel_rfl) (by kernel_rfl) (fun _ _ _ h => h) (Or.inl ⟨by rfl, ?_⟩) (by assumption) ?_; rotate_left; (focus (intro w hSw; (try dsimp only at hSw); go_simp; (try with_reducible rfl); done)); (try simp only [put_rules]))
      (refine wpAnyH_take (i := 1) (v := ?_) rfl (by kernel_rfl) (by kernel_rfl) (by kernel_rfl) (fun _ _ _ h => h) (Or.inl ⟨by rfl, ?_⟩) (by assumption) ?_; rotate_left; (focus (intro w hSw; (try dsimp only at hSw); go_simp; (try with_reducible rfl); done)); (try simp only [put_rules]))
      (refine wpAnyH_take (i := 2) (v := ?_) rfl (by kernel_rfl) (by kernel_rfl) (by kernel_rfl) (fun _ _ _ h => h) (Or.inl ⟨by rfl, ?_⟩) (by assumption) ?_; rotate_left; (focus (intro w hSw; (try dsimp only at hSw); go_simp; (try with_reducible rfl); done)); (try simp only [put_rules]))
      (refine wpAnyH_take (i := 3) (v := ?_) rfl (by kernel_rfl) (by kernel_rfl) (by kernel_rfl) (fun _ _ _ h => h) (Or.inl ⟨by rfl, ?_⟩) (by assumption) ?_; rotate_left; (focus (intro w hSw; (try dsimp only at hSw); go_simp; (try with_reducible rfl); done)); (try simp only [put_rules]))
      (refine wpAnyH_take (i := 4) (v := ?_) rfl (by kernel_rfl) (by kernel_rfl) (by kernel_rfl) (fun _ _ _ h => h) (Or.inl ⟨by rfl, ?_⟩) (by assumption) ?_; rotate_left; (focus (intro w hSw; (try dsimp only at hSw); go_simp; (try with_reducible rfl); done)); (try simp only [put_rules]))
      (refine wpAnyH_take (i := 5) (v := ?_) rfl (by kernel_rfl) (by kernel_rfl) (by kernel_rfl) (fun _ _ _ h => h) (Or.inl ⟨by rfl, ?_⟩) (by assumption) ?_; rotate_left; (focus (intro w hSw; (try dsimp only at hSw); go_simp; (try with_reducible rfl); done)); (try simp only [put_rules]))
      (refine wpAnyH_take (i := 9) (v := ?_) rfl (by kernel_rfl) (by kernel_rfl) (by kernel_rfl) (fun _ _ _ h => h) (Or.inl ⟨by rfl, ?_⟩) (by assumption) ?_; rotate_left; (focus (intro w hSw; (try dsimp only at hSw); go_simp; (try with_reducible rfl); done)); (try simp only [put_rules]))
      (refine wpAnyH_take (i := 10) (v := ?_) rfl (by kernel_rfl) (by kernel_rfl) (by kernel_rfl) (fun _ _ _ h => h) (Or.inl ⟨by rfl, ?_⟩) (by assumption) ?_; rotate_left; (focus (intro w hSw; (try dsimp only at hSw); go_simp; (try with_reducible rfl); done)); (try simp only [put_rules]))
      (refine wpAnyH_take (i := 11) (v := ?_) rfl (by kernel_rfl) (by kernel_rfl) (by kernel_rfl) (fun _ _ _ h => h) (Or.inl ⟨by rfl, ?_⟩) (by assumption) ?_; rotate_left; (focus (intro w hSw; (try dsimp only at hSw); go_simp; (try with_reducible rfl); done)); (try simp only [put_rules]))
      (refine wpAnyH_take (i := 12) (v := ?_) rfl (by kernel_rfl) (by kernel_rfl) (by kernel_rfl) (fun _ _ _ h => h) (Or.inl ⟨by rfl, ?_⟩) (by assumption) ?_; rotate_left; (focus (intro w hSw; (try dsimp only at hSw); go_simp; (try with_reducible rfl); done)); (try simp only [put_rules]))
      (refine wpAnyH_take (i := 13) (v := ?_) rfl (by kernel_rfl) (by kernel_rfl) (by kernel_rfl) (fun _ _ _ h => h) (Or.inl ⟨by rfl, ?_⟩) (by assumption) ?_; rotate_left; (focus (intro w hSw; (try dsimp only at hSw); go_simp; (try with_reducible rfl); done)); (try simp only [put_rules]))
      (refine wpAnyH_take (i := 14) (v := ?_) rfl (by kernel_rfl) (by kernel_rfl) (by kernel_rfl) (fun _ _ _ h => h) (Or.inl ⟨by rfl, ?_⟩) (by assumption) ?_; rotate_left; (focus (intro w hSw; (try dsimp only at hSw); go_simp; (try with_reducible rfl); done)); (try simp only [put_rules]))
      have S3 := HS.out.drew
      have hcu := (S3.cur (A' := 2020) (i := 2) rfl hcH.out hs).1
      (refine wpAnyH_ready (rs := [6]) (by kernel_rfl) (by simp) ?_; refine AllReadyH.cons rfl (fun K hK => ?_) AllReadyH.nil)
      go_simp
      go_at_call 100
      refine (cur_pick_at (lo := 0) (hi := (xss.length : Int) - 1) hcu (by omega) (by omega) (by omega) (by omega) (by omega)).mono ?_
      rintro e w3 ⟨_, ⟨x, hx0, hx1, rfl⟩, rfl, hi3, hc3⟩
      have S4 := Lib.hid ((S3.cur (A' := 2020) (i := 2) rfl hcH.out hs).2 w3 (hi3.mono (by omega)) hc3)
      clear S3 hcu hi3 hc3 l1 HS
      obtain ⟨k, rfl⟩ := Int.eq_ofNat_of_zero_le hx0
      have hkn : k < xss.length := by omega
      obtain ⟨E1, ec1, F1, hk1, -⟩ := rows_get S4.out (i := 1) rfl hkn
      go_wp2_with fail
      refine hK.out _ _ ⟨S4.out.cell (i := 0) rfl (o := 1) rfl, rows_cell S4.out (i := 1) rfl rfl⟩ (fun hS2 => ?_)
      clear hK hSc
      (try simp only [put_rules])
      (refine wpAnyH_take (i := 7) (v := ?_) rfl (by kernel_rfl) (by kernel_rfl) (by kernel_rfl) (fun _ _ _ h => h) (Or.inl ⟨by rfl, ?_⟩) (by assumption) ?_; rotate_left; (focus (intro w hSw; (try dsimp only at hSw); go_simp; (try with_reducible rfl); done)); (try simp only [put_rules]))
      (refine wpAnyH_take (i := 8) (v := .slice E1 xss[k].length ec1) rfl (by kernel_rfl) (by kernel_rfl) (by kernel_rfl) (fun _ _ _ h => h) (Or.inl ⟨by rfl, fun w5 hS5 => ?_⟩) (by assumption) ?_)
      · have h8 := hS5.2 k _ hk1
        go_simp
      have S5 := S4.out
      have hcu := (S5.cur (A' := 2030) (i := 2) rfl hcH.out hs).1
      (refine wpAnyH_ready (rs := [15]) (by kernel_rfl) (by simp) ?_; refine AllReadyH.cons rfl (fun K hK => ?_) AllReadyH.nil)
      go_simp
      go_at_call 100
      refine (cur_pick_at (lo := 0) (hi := (xss.length : Int) - 1) hcu (by omega) (by omega) (by omega) (by omega) (by omega)).mono ?_
      rintro e w6 ⟨_, ⟨x, hx0, hx1, rfl⟩, rfl, hi3, hc3⟩
      have S6 := Lib.hid ((S5.cur (A' := 2030) (i := 2) rfl hcH.out hs).2 w6 (hi3.mono (by omega)) hc3)
      clear S5 S4 hcu hi3 hc3
      obtain ⟨m, rfl⟩ := Int.eq_ofNat_of_zero_le hx0
      have hmn : m < xss.length := by omega
      obtain ⟨E2, ec2, F2, hk2, hr2⟩ := rows_get S6.out (i := 1) rfl hmn
      obtain ⟨E1', ec1', F1', hk1', hr1⟩ := rows_get S6.out (i := 1) rfl hkn
      rw [hk1] at hk1'
      simp only [Option.some.injEq, Value.slice.injEq] at hk1'
      obtain ⟨rfl, -, rfl⟩ := hk1'
      go_wp2_with fail
      refine hK.out _ _ ⟨S6.out.cell (i := 0) rfl (o := 1) rfl, rows_cell S6.out (i := 1) rfl rfl⟩ (fun hS3 => ?_)
      clear hK hS2
      (try simp only [put_rules])
      (refine wpAnyH_take (i := 16) (v := ?_) rfl (by kernel_rfl) (by kernel_rfl) (by kernel_rfl) (fun _ _ _ h => h) (Or.inl ⟨by rfl, ?_⟩) (by assumption) ?_; rotate_left; (focus (intro w hSw; (try dsimp only at hSw); go_simp; (try with_reducible rfl); done)); (try simp only [put_rules]))
      (refine wpAnyH_take (i := 17) (v := .slice E2 xss[m].length ec2) rfl (by kernel_rfl) (by kernel_rfl) (by kernel_rfl) (fun _ _ _ h => h) (Or.inl ⟨by rfl, fun w5 hS5 => ?_⟩) (by assumption) ?_)
      · have h8 := hS5.2 m _ hk2
        go_simp
      (refine wpAnyH_take (i := 18) (v := ?_) rfl (by kernel_rfl) (by kernel_rfl) (by kernel_rfl) (fun _ _ _ h => h) (Or.inl ⟨by rfl, ?_⟩) (by assumption) ?_; rotate_left; (focus (intro w hSw; (try dsimp only at hSw); go_simp; (try with_reducible rfl); done)); (try simp only [put_rules]))
      (refine wpAnyH_take (i := 19) (v := ?_) rfl (by kernel_rfl) (by kernel_rfl) (by kernel_rfl) (fun _ _ _ h => h) (Or.inl ⟨by rfl, ?_⟩) (by assumption) ?_; rotate_left; (focus (intro w hSw; (try dsimp only at hSw); go_simp; (try with_reducible rfl); done)); (try simp only [put_rules]))
      (refine wpAnyH_done (by kernel_rfl) ?_ _)
      obtain ⟨wa, la⟩ := hgw.out k hkn
      obtain ⟨wb, lb⟩ := hgw.out m hmn
      clear hS3 hk1 hk2 hgw
      generalize xss[k] = ra at *
      generalize xss[m] = rc at *
      replace hr1 := Lib.hid hr1
      replace hr2 := Lib.hid hr2
      replace wa := Lib.hid wa
      replace wb := Lib.hid wb
      clear hkn hmn hx0 hx1
      have S7 : Hid (Sp w w6 [Box fb 26 #[.int .i64 vars, .slice (some ⟨rb, 0, none⟩) xss.length cap], Rows Ty.int 30 (.slice (some ⟨rb, 0, none⟩) xss.length cap) cs xss, CurA 2030 gc ca cl cc, Box w.heap.size 26 #[.int .i64 0, .slice none 0 0]]) := S6
      have hb6 := Lib.hid (bb w6)
      clear S6
      go_wp2_with fail
      go_loopw [3, 8, 9, 10] (fun _ vi _ _ wr => ∃ z : Int, 1 ≤ z ∧ z ≤ 14 ∧ vi = .int .i64 z ∧ Hid (Below w6.heap.size w6 wr) ∧ Hid (Sp w wr [Box fb 26 #[.int .i64 vars, .slice (some ⟨rb, 0, none⟩) xss.length cap], Rows Ty.int 30 (.slice (some ⟨rb, 0, none⟩) xss.length cap) cs xss, CurA 2030 gc ca cl cc, Box w.heap.size 26 #[.int .i64 0, .slice none 0 0]])) (fun _ vi _ _ _ => 20 - (intOf vi).toNat)
      case atStart => exact ⟨1, by decide, by decide, rfl, hb6, S7⟩
      case round =>
        obtain ⟨z, hz1, hz2, rfl, HB, HS⟩ := hrel
        clear S7 hb6
        have c0 := HS.out.cell (i := 0) rfl (o := 0) rfl
        have c1 := HS.out.cell (i := 0) rfl (o := 1) rfl
        by_cases hlt : z ≤ vars
        · have d1 : decide (z ≤ vars) = true := decide_eq_true hlt
          have hw1 : wrap64 (-z) = -z := by unfold wrap64; omega
          have hw2 : IntKind.i64.wrap (z + 1) = z + 1 := IntWalk.i64_in _ (by omega)
          have hra := Ty.row_grow hr1.out HB.out
          have hrc := Ty.row_grow hr2.out HB.out
          cases hq : hasI ra z
          · clear hrc
            go_wp2_with (go_at_call 101; (with_reducible refine (l2Has_at hra hq).mono ?_); rintro e w2 ⟨rfl, rfl⟩)
            clear hra
            go_roundw
            case rel => exact ⟨z + 1, by omega, by omega, by go_num, HB, HS⟩
            case measure => simp [intOf]; omega
          · cases hq2 : hasI rc (-z)
            · go_wp2_with (go_at_call 101; (first | (with_reducible refine (l2Has_at hra hq).mono ?_) | (with_reducible refine (l2Has_at hrc hq2).mono ?_)); rintro e w2 ⟨rfl, rfl⟩)
              clear hra hrc
              go_roundw
              case rel => exact ⟨z + 1, by omega, by omega, by go_num, HB, HS⟩
              case measure => simp [intOf]; omega
            · have hres := Lib.hid (l2ResolveW_any _ _ ra rc z _ _ wr hra hrc wa.out wb.out la lb (by omega) (by omega))
              go_wp2_with (go_at_call 101; (first | (with_reducible refine (l2Has_at hra hq).mono ?_) | (with_reducible refine (l2Has_at hrc hq2).mono ?_)); rintro e w2 ⟨rfl, rfl⟩)
              clear hra hrc hq hq2
              refine hres.out.mono ?_
              rintro e w7 ⟨v7, d, q, rfl, ho7, hdl, hdw, hb7⟩
              obtain ⟨D, dc, rfl⟩ := own_slice ho7
              have S8 := Lib.hid (HS.out.own_call hb7 ho7)
              have HB8 := Lib.hid (btr HB.out hb7)
              have hdI := Lib.hid (hdw.i64 (by decide))
              clear hres ho7 hdw hb7 HS HB c0 c1
              cases q
              · have S9 := Lib.hid S8.out.tail
                clear S8
                go_wp2_with fail
                go_roundw
                case rel => exact ⟨z + 1, by omega, by omega, by go_num, HB8, S9⟩
                case measure => simp [intOf]; omega
              · have l0 := S8.out.cell (i := 1) rfl (o := 0) rfl
                have l1 := S8.out.cell (i := 1) rfl (o := 1) rfl
                have f0 := S8.out.frozen (i := 4) rfl 0
                have f1 := S8.out.frozen (i := 4) rfl 1
                have r0 := S8.out.cell (i := 4) rfl (o := 0) rfl
                have r1 := S8.out.cell (i := 4) rfl (o := 1) rfl
                have SF := (S8.out.store (i := 4) rfl 0 (.int .i64 vars)).store (i := 4) rfl 1 (.slice (some ⟨rb, 0, none⟩) xss.length cap)
                have j0 := SF.cell (i := 4) rfl (o := 0) rfl
                have j1 := SF.cell (i := 4) rfl (o := 1) rfl
                have hR := Lib.hid (Sp.front (qs := [_, _]) ((SF.bring (i := 2) rfl).swap))
                clear SF S8 HB8
                go_wp2_with fail
                exact bodyPost_ret (v := .tuple #[.agg #[.int .i64 vars, .slice (some ⟨rb, 0, none⟩) xss.length cap], .slice D d.length dc]) (by simp [results, Try.results21, go_sem, j0, j1]) rfl ⟨vars, _, cap, cs, xss, D, dc, d, rfl, hv0, hv1, hl, HC.out, by omega, hdI.out, hR.out⟩
        · have d1 : decide (z ≤ vars) = false := decide_eq_false hlt
          go_wp2_with fail
          go_meet
          exact HS
  case rest =>
  clear HS hb
  have HS := hcut
  have S3 := HS.out.bring (i := 2) rfl
  have l0 := S3.cell (i := 1) rfl (o := 0) rfl
  have l1 := S3.cell (i := 1) rfl (o := 1) rfl
  have S4 := Lib.hid S3.drew
  clear S3 HS hcut
  go_wp2_with fail
  refine wp_region_tail_lit (S := (fun w' => w'.cell? ⟨fb, 0, none⟩ = some (.int .i64 vars) ∧ w'.cell? ⟨fb, 1, none⟩ = some (.slice B xss.length cap))) 5 [false, false, false, false, false, false, false] (by kernel_rfl) (by kernel_rfl) (by kernel_rfl) ?_ ?_
  · exact ⟨l0, l1⟩
  intro hSc
  (refine walkT_take (i := 0) (v := ?_) rfl (by kernel_rfl) (by decide) (by kernel_rfl) (by kernel_rfl) (fun _ _ _ h => h) (Or.inl ⟨by rfl, ?_⟩) (by assumption) ?_; rotate_left; (focus (intro w hSw; (try dsimp only at hSw); go_simp; (try with_reducible rfl); done)); (try simp only [put_rules]))
  (refine walkT_take (i := 1) (v := ?_) rfl (by kernel_rfl) (by decide) (by kernel_rfl) (by kernel_rfl) (fun _ _ _ h => h) (Or.inl ⟨by rfl, ?_⟩) (by assumption) ?_; rotate_left; (focus (intro w hSw; (try dsimp only at hSw); go_simp; (try with_reducible rfl); done)); (try simp only [put_rules]))
  (refine walkT_take (i := 2) (v := ?_) rfl (by kernel_rfl) (by decide) (by kernel_rfl) (by kernel_rfl) (fun _ _ _ h => h) (Or.inl ⟨by rfl, ?_⟩) (by assumption) ?_; rotate_left; (focus (intro w hSw; (try dsimp only at hSw); go_simp; (try with_reducible rfl); done)); (try simp only [put_rules]))
  (refine walkT_take (i := 3) (v := ?_) rfl (by kernel_rfl) (by decide) (by kernel_rfl) (by kernel_rfl) (fun _ _ _ h => h) (Or.inl ⟨by rfl, ?_⟩) (by assumption) ?_; rotate_left; (focus (intro w hSw; (try dsimp only at hSw); go_simp; (try with_reducible rfl); done)); (try simp only [put_rules]))
  (refine walkT_ready (rs := [4]) (by kernel_rfl) (by simp) (by decide) ?_; refine AllT.cons rfl (fun K hK => ?_) AllT.nil)
  go_simp
  go_at_call 103
  have hcu := (S4.out.cur (A' := 2010) (i := 0) rfl hcH.out hs).1
  refine (cur_anyClause vars (by omega) _ gc ca cl cc _ hcu (by omega)).mono ?_
  rintro e w3 ⟨v, c, rfl, ho, hcl, hI, hi3, hc3⟩
  have S5 := S4.out.cs_call (row_cs hcu hi3 hc3 ho) hcH.out hs
  obtain ⟨B2, cap2, rfl⟩ := own_slice ho
  replace S5 := Lib.hid S5
  have hI2 := Lib.hid hI
  clear S4 hcu hi3 hc3 ho hI l0 l1
  go_wp2_with fail
  refine hK.out _ _ ⟨S5.out.cell (i := 2) rfl (o := 0) rfl, S5.out.cell (i := 2) rfl (o := 1) rfl⟩ (fun hS2 => ?_)
  clear hK hSc
  (try simp only [put_rules])
  (refine walkT_done (by kernel_rfl) ?_)
  simp only [List.drop_succ_cons, List.drop_zero]
  have f0 := S5.out.frozen (i := 4) rfl 0
  have f1 := S5.out.frozen (i := 4) rfl 1
  have r0 := S5.out.cell (i := 4) rfl (o := 0) rfl
  have r1 := S5.out.cell (i := 4) rfl (o := 1) rfl
  have SF := (S5.out.store (i := 4) rfl 0 (.int .i64 vars)).store (i := 4) rfl 1 (.slice B xss.length cap)
  have j0 := SF.cell (i := 4) rfl (o := 0) rfl
  have j1 := SF.cell (i := 4) rfl (o := 1) rfl
  have hR := Lib.hid (Sp.front (qs := [_, _]) ((SF.bring (i := 3) rfl).swap))
  clear SF S5 hS2
  go_wp2_with fail
  exact bodyPost_ret (v := .tuple #[.agg #[.int .i64 vars, .slice B xss.length cap], .slice B2 c.length cap2]) (by simp [results, Try.results21, go_sem, j0, j1]) rfl ⟨vars, B, cap, cs, xss, B2, cap2, c, rfl, hv0, hv1, hl, HC.out, by omega, hI2.out, hR.out⟩
end Go.Proofs.Ytmikconjhmhekaa

/- Contract: slices.DeleteFunc at an own row of numbers, with a function that may make memory. -/
namespace Go.Proofs.Ytmikconjhmhekaa
open Go.RowKit

theorem set_get {α : Type} {l : List α} {i : Nat} {q : α} (h : l[i]? = some q) : l.set i q = l := by
  apply List.ext_getElem?
  intro j
  rw [List.getElem?_set]
  split
  · rename_i e
    subst e
    have := (List.getElem?_eq_some_iff.1 h).1
    rw [if_pos this, h]
  · rfl
theorem set_at {α : Type} {l : List α} {i : Nat} {q : α} (h : l[i]? = some q) (p : α) : (l.set i p)[i]? = some p := by
  have := (List.getElem?_eq_some_iff.1 h).1
  rw [List.getElem?_set_self this]
theorem Sp.own_puts {w0 : World} {g cap n size : Nat} {e : TypeId} {i : Nat} : ∀ (us : List Value) (o : Nat) (w : World) (ps : List Asn) (xs : List Value), Sp w0 w ps → ps[i]? = some (Own e size (.slice (some ⟨g, 0, none⟩) n cap) n xs) → o + us.length ≤ n * size →
    ∃ xs', Sp w0 (w.setCells g o us) (ps.set i (Own e size (.slice (some ⟨g, 0, none⟩) n cap) n xs')) ∧ xs'.take o = xs.take o ∧ Chg [g] w (w.setCells g o us)
  | [], o, w, ps, xs, h, hi, _ => ⟨xs, by rw [set_get hi]; exact h, rfl, Chg.refl _ _⟩
  | u :: us, o, w, ps, xs, h, hi, hl => by
    have h1 := h.own_put hi u (o := o) (by simp at hl; omega)
    obtain ⟨xs', h2, h3, h4⟩ := Sp.own_puts us (o + 1) _ _ _ h1 (set_at hi _) (by simp at hl; omega)
    refine ⟨xs', by rw [World.setCells]; rwa [List.set_set] at h2, ?_, by rw [World.setCells]; exact ((Chg.refl [g] w).set (p := ⟨g, o, none⟩) (by simp) u).trans h4⟩
    have := congrArg (List.take o) h3
    rw [List.take_take, List.take_take, Nat.min_eq_left (by omega)] at this
    rw [this, List.take_set_of_le (Nat.le_refl _)]
theorem Sp.own_cut {w0 w : World} {g cap n m : Nat} {e : TypeId} {i : Nat} {ps : List Asn} {xs : List Value} (h : Sp w0 w ps) (hi : ps[i]? = some (Own e 1 (.slice (some ⟨g, 0, none⟩) n cap) n xs)) (hm : m ≤ n) : Sp w0 w (ps.set i (Own e 1 (.slice (some ⟨g, 0, none⟩) m cap) m (xs.take m))) := by
  obtain ⟨F, ⟨rfl, hl, hh⟩, hF, hall⟩ := h.upd hi
  refine hall _ _ [g] (Chg.refl _ _) ⟨rfl, by rw [List.length_take, hl]; omega, .inr ?_⟩ (fun b hb => .inl hb)
  rcases hh with ⟨h1, _⟩ | ⟨g', cap', cur, e1, h0, hg, hn, hmx, hc, ht⟩
  · cases h1
  · simp only [Value.slice.injEq, Option.some.injEq, Addr.mk.injEq] at e1
    obtain ⟨⟨rfl, _⟩, _, rfl⟩ := e1
    refine ⟨g, cap, cur, rfl, Nat.zero_le _, hg, by omega, hmx, hc, ?_⟩
    rw [← ht, List.take_take, Nat.mul_one, Nat.mul_one, Nat.min_eq_left hm]
/-- The state of DeleteFunc's loop: i kept elements stand ahead, from j on nothing has turned. -/
def DelInv (p : Int → Bool) (xs : List Int) (i j : Nat) (ys : List Value) : Prop :=
  i < j ∧ ys.length = xs.length ∧ ys.take i = ((xs.take j).filter fun x => !p x).map (.int .i64) ∧ i = ((xs.take j).filter fun x => !p x).length ∧ ∀ k, j ≤ k → ys[k]? = (xs.map (Value.int .i64))[k]?
theorem DelInv.start {p : Int → Bool} {xs : List Int} {k : Nat} (hk : k < xs.length) (h1 : p xs[k] = true) (h0 : (xs.take k).any p = false) : DelInv p xs k (k + 1) (xs.map (.int .i64)) := by
  have hf : ((xs.take (k + 1)).filter fun x => !p x) = xs.take k := by
    rw [List.take_succ_eq_append_getElem hk, List.filter_append, List.filter_eq_self.2]
    · simp [h1]
    · intro x hx
      have := List.any_eq_false.1 h0 x hx
      simpa using this
  exact ⟨by omega, by simp, by rw [hf, List.map_take], by rw [hf, List.length_take]; omega, fun _ _ => rfl⟩
theorem DelInv.keep {p : Int → Bool} {xs : List Int} {i j : Nat} {ys : List Value} (h : DelInv p xs i j ys) (hj : j < xs.length) (h1 : p xs[j] = false) : DelInv p xs (i + 1) (j + 1) (ys.set i (.int .i64 xs[j])) := by
  obtain ⟨a1, a2, a3, a4, a5⟩ := h
  have hf : ((xs.take (j + 1)).filter fun x => !p x) = ((xs.take j).filter fun x => !p x) ++ [xs[j]] := by
    rw [List.take_succ_eq_append_getElem hj, List.filter_append]
    simp [h1]
  refine ⟨by omega, by simp [a2], ?_, by rw [hf]; simp [← a4], fun k hk => ?_⟩
  · rw [hf, List.map_append, ← a3, List.take_succ_eq_append_getElem (by simp; omega), List.take_set_of_le (Nat.le_refl _)]
    simp
  · rw [List.getElem?_set_ne (by omega)]
    exact a5 k (by omega)
theorem DelInv.skip {p : Int → Bool} {xs : List Int} {i j : Nat} {ys : List Value} (h : DelInv p xs i j ys) (hj : j < xs.length) (h1 : p xs[j] = true) : DelInv p xs i (j + 1) ys := by
  obtain ⟨a1, a2, a3, a4, a5⟩ := h
  have hf : ((xs.take (j + 1)).filter fun x => !p x) = ((xs.take j).filter fun x => !p x) := by
    rw [List.take_succ_eq_append_getElem hj, List.filter_append]
    simp [h1]
  exact ⟨by omega, a2, by rw [hf]; exact a3, by rw [hf]; exact a4, fun k hk => a5 k (by omega)⟩

set_option maxRecDepth 100000 in
set_option maxHeartbeats 4000000 in
theorem deleteFuncI_any {g : FuncId} {cb : Array Value} {p : Int → Bool} {R : Int → Prop} (eg : Enter1 g) (xs : List Int) (B : Option Addr) (cc : Nat) (w0 w : World) (ps : List Asn)
    (S : Sp w0 w (Own 3 1 (.slice B xs.length cc) xs.length (xs.map (.int .i64)) :: ps)) (hI : ∀ x ∈ xs, I64 x) (hl : xs.length ≤ 1000000) (hR : ∀ x ∈ xs, R x)
    (hf : ∀ (x : Int) (ys : List Value) (W : World), R x → Sp w0 W (Own 3 1 (.slice B xs.length cc) xs.length ys :: ps) → Calls Try.prog g (#[.int .i64 x] ++ cb) W fun e w' => e = .returned (.bool (p x)) ∧ Below W.heap.size W w') :
    Calls Try.prog 93 #[.slice B xs.length cc, .func (.func g) #[] cb] w fun e w' => e = .returned (.slice B (xs.filter fun x => !p x).length cc) ∧
      Sp w0 w' (Own 3 1 (.slice B (xs.filter fun x => !p x).length cc) (xs.filter fun x => !p x).length ((xs.filter fun x => !p x).map (.int .i64)) :: ps) ∧ Chg (Value.slice B xs.length cc).ownBlock.toList w w' := by
  have hF : FnI R w g cb p := fun x W hx hb => hf x _ W hx (S.grow hb)
  obtain ⟨A, c, e1, hIn⟩ := ints_own (S.own (i := 0) rfl) hI
  cases e1
  have hix := Lib.hid (indexFuncI_any eg xs B cc w hIn hl hR hF)
  have eg2 := eg
  unfold Enter1 at eg2
  clear hIn hF
  cases hq : xs.any p
  · have hid : idxP p xs = -1 := by unfold idxP; rw [hq]; rfl
    have hfx : (xs.filter fun x => !p x) = xs := by
      rw [List.filter_eq_self]
      intro x hx
      have := List.any_eq_false.1 hq x hx
      simpa using this
    rw [hid] at hix
    rw [hfx]
    replace S := Lib.hid S
    clear hid hfx hf hR
    go_enter Try.func93, Try.ntmps93
    go_wp2_with fail
    refine hix.out.mono ?_
    rintro e w1 ⟨rfl, hb1⟩
    have S1 := Lib.hid (S.out.grow hb1)
    have hch := Lib.hid (Chg.of_below (F := (Value.slice B xs.length cc).ownBlock.toList) hb1)
    clear hix hb1 S
    go_wp2_with fail
    go_ret
    exact ⟨rfl, S1.out, hch.out⟩
  · have hlt : xs.findIdx p < xs.length := List.findIdx_lt_length_of_exists (by simpa using List.any_eq_true.1 hq)
    have hid : idxP p xs = (xs.findIdx p : Int) := by unfold idxP; rw [if_pos hq]
    have hyes : p xs[xs.findIdx p] = true := List.findIdx_getElem (w := hlt)
    have hbef : (xs.take (xs.findIdx p)).any p = false := by
      rw [List.any_eq_false]
      intro x hx
      obtain ⟨j, hj, rfl⟩ := List.mem_take_iff_getElem.1 hx
      have := List.not_of_lt_findIdx (xs := xs) (p := p) (i := j) (by omega)
      simpa using this
    have HD := DelInv.start hlt hyes hbef
    rw [hid] at hix
    generalize xs.findIdx p = k0 at *
    obtain ⟨gx, cap', cur, e1, -⟩ := own_block (S.own (i := 0) rfl) (by omega)
    simp only [Value.slice.injEq] at e1
    obtain ⟨rfl, -, rfl⟩ := e1
    have hcc : xs.length ≤ cc ∧ cc ≤ 9223372036854775807 := by
      obtain ⟨g', cap', cur, e1, -, -, hn, hm, -⟩ := own_block (S.own (i := 0) rfl) (by omega)
      simp only [Value.slice.injEq] at e1
      obtain ⟨-, -, rfl⟩ := e1
      exact ⟨hn, by unfold maxLen at hm; omega⟩
    have hne1 : ((k0 : Int) == -1) = false := beq_eq_false_iff_ne.2 (by omega)
    obtain ⟨n, hn⟩ : ∃ n, xs.length = n := ⟨_, rfl⟩
    rw [hn] at S hix hf hlt hl hcc ⊢
    obtain ⟨zs, hzs⟩ : ∃ zs, (xs.filter fun x => !p x) = zs := ⟨_, rfl⟩
    rw [hzs]
    replace S := Lib.hid S
    replace hf := Lib.hid hf
    replace HD := Lib.hid HD
    replace hn := Lib.hid hn
    replace hzs := Lib.hid hzs
    have hRR := Lib.hid hR
    clear hid hyes hbef hq hR hI
    go_enter Try.func93, Try.ntmps93
    go_wp2_with fail
    refine hix.out.mono ?_
    rintro e w1 ⟨rfl, hb1⟩
    have S1 := Lib.hid (S.out.grow hb1)
    have hch := Lib.hid (Chg.of_below (F := [gx]) hb1)
    clear hix hb1 S
    go_wp2_with fail
    go_loopw [5, 6, 7] (fun vi vj _ wr => ∃ (i j : Nat) (ys : List Value), i < j ∧ j ≤ n ∧ vi = .int .i64 i ∧ vj = .int .i64 j ∧ Hid (DelInv p xs i j ys) ∧ Hid (Sp w0 wr (Own 3 1 (.slice (some ⟨gx, 0, none⟩) n cc) n ys :: ps)) ∧ Hid (Chg [gx] w wr)) (fun _ vj _ _ => n - (intOf vj).toNat)
    case atStart => exact ⟨k0, k0 + 1, _, by omega, by omega, rfl, by go_num, HD, S1, hch⟩
    case round =>
      obtain ⟨i, j, ys, hij, hjn, rfl, rfl, HI, HS, HC⟩ := hrel
      clear S1 hch HD hlt hne1
      by_cases hlt : j < n
      · have hltz : decide ((j : Int) < (n : Int)) = true := decide_eq_true (Int.ofNat_lt.2 hlt)
        have hjx : j < xs.length := by rw [hn.out]; exact hlt
        obtain ⟨g', cap', cur, e1, -, hh, -, -, -, ht⟩ := own_block (HS.out.own (i := 0) rfl) (by omega)
        simp only [Value.slice.injEq, Option.some.injEq, Addr.mk.injEq] at e1
        obtain ⟨⟨rfl, -⟩, -, rfl⟩ := e1
        have m0 := (own_at hh ht (o := j) (by omega)).1
        rw [HI.out.2.2.2.2 j (Nat.le_refl _), List.getElem?_map, List.getElem?_eq_getElem hjx] at m0
        have f0 := (own_at hh ht (o := i) (by omega)).2
        have hil : i < ys.length := by rw [HI.out.2.1, hn.out]; omega
        have n0 := (own_at hh ht (o := i) (by omega)).1
        rw [List.getElem?_eq_getElem hil] at n0
        obtain ⟨x, hx⟩ : ∃ x, xs[j] = x := ⟨_, rfl⟩
        have hRx := hRR.out _ (List.getElem_mem hjx)
        have hkp := fun h => HI.out.keep hjx h
        have hsk := fun h => HI.out.skip hjx h
        rw [hx] at m0 hRx hkp hsk
        have hcall := Lib.hid (hf.out x ys wr hRx HS.out)
        have hS2 := Lib.hid (fun W (h : Below wr.heap.size wr W) => (HS.out.grow h).own_put (i := 0) rfl (.int .i64 x) (o := i) (by omega))
        replace hkp := Lib.hid hkp
        replace hsk := Lib.hid hsk
        replace hx := Lib.hid hx
        simp only [Option.map_some] at m0
        generalize ys[i] = old at n0
        generalize p x = q at *
        clear hh ht hil hRx
        cases q
        · have HI2 := Lib.hid (hkp.out rfl)
          clear hkp hsk
          go_wp2_with fail
          refine hcall.out.mono ?_
          rintro e w2 ⟨rfl, hb2⟩
          have S3 := Lib.hid (hS2.out _ hb2)
          have n2 := ((bcell hb2).1 _ _ (World.block_lt_of_cell? _ _ n0)).trans n0
          have f2 := ((bcell hb2).2 gx i (World.block_lt_of_cell? _ _ n0)).trans f0
          have HC2 := Lib.hid ((HC.out.then hb2).set (p := ⟨gx, i, none⟩) (by simp) (.int .i64 x))
          clear hcall hb2 HS HC hS2 m0 n0 f0
          go_wp2_with fail
          go_roundw
          case rel => exact ⟨i + 1, j + 1, _, by omega, by omega, by go_num, by go_num, HI2, S3, HC2⟩
          case measure => simp [intOf]; omega
        · have HI2 := Lib.hid (hsk.out rfl)
          clear hkp hsk
          go_wp2_with fail
          refine hcall.out.mono ?_
          rintro e w2 ⟨rfl, hb2⟩
          have S3 := Lib.hid (HS.out.grow hb2)
          have HC2 := Lib.hid (HC.out.then hb2)
          clear hcall hb2 HS HC hS2 m0 n0 f0
          go_wp2_with fail
          go_roundw
          case rel => exact ⟨i, j + 1, _, by omega, by omega, rfl, by go_num, HI2, S3, HC2⟩
          case measure => simp [intOf]; omega
      · obtain rfl : j = n := by omega
        have hltz : decide ((j : Int) < (j : Int)) = false := by simp
        obtain ⟨g', cap', cur, e1, -, hh, -, -, -, ht⟩ := own_block (HS.out.own (i := 0) rfl) (by omega)
        simp only [Value.slice.injEq, Option.some.injEq, Addr.mk.injEq] at e1
        obtain ⟨⟨rfl, -⟩, -, rfl⟩ := e1
        have hcl : ∀ ty, (Builtin.clear_ #[30] ty #[.slice (some ⟨gx, i, none⟩) (j - i) (cc - i)]).run Try.prog wr = .ok (.tuple #[]) (wr.setCells gx i (List.replicate (j - i) (.int .i64 0))) := fun ty =>
          Lib.run_clear_slice wr _ _ ty _ Try.underlying30 Try.zeroValue3 (by simp [Value.cells]) rfl gx i _ _ (by omega)
            (fun t ht' => by
              have hlen : i + t < ys.length := by rw [HI.out.2.1, hn.out]; omega
              rw [(own_at hh ht (o := i + t) (by omega)).1, List.getElem?_eq_getElem hlen]; rfl)
            (fun t ht' => (own_at hh ht (o := i + t) (by omega)).2)
        obtain ⟨ys', S2, hy2, hc2⟩ := HS.out.own_puts (i := 0) (List.replicate (j - i) (.int .i64 0)) i wr _ _ rfl (by simp; omega)
        have S3 := S2.own_cut (i := 0) (m := i) rfl (by omega)
        obtain ⟨a1, a2, a3, a4, a5⟩ := HI.out
        have htk : xs.take j = xs := by rw [← hn.out, List.take_length]
        rw [hy2, a3, htk, hzs.out] at S3
        rw [htk, hzs.out] at a4
        have hzl := Lib.hid a4
        have hch2 := Lib.hid (HC.out.trans hc2)
        replace S3 := Lib.hid S3
        clear HI HS HC hh ht S2 hy2 hc2 a1 a2 a3 a4 a5 htk
        go_wp2_with fail
        go_ret
        exact ⟨by rw [← hzl.out]; rfl, by rw [← hzl.out]; exact S3.out, hch2.out⟩
end Go.Proofs.Ytmikconjhmhekaa

/- Contracts: total assignments and the value of a clause, in the reference. -/
namespace Go.Proofs.Ytmikconjhmhekaa
open Go.RowKit

/-- The total assignment of bits. -/
def totI (b i : Nat) : Int := if b.testBit i then (i : Int) + 1 else -((i : Int) + 1)
def totB (n b : Nat) : List Int := (List.range n).map (totI b)
theorem tot_len (n b : Nat) : (totB n b).length = n := by simp [totB]
theorem tot_snoc (n b : Nat) : totB (n + 1) b = totB n b ++ [totI b n] := by simp [totB, List.range_succ]
theorem tot_ok (n b : Nat) (hn : n ≤ 1000) : ∀ x ∈ totB n b, I64 x := by
  intro x hx
  obtain ⟨i, hi, rfl⟩ := List.mem_map.1 hx
  have := List.mem_range.1 hi
  unfold totI I64
  split <;> omega
theorem has_tot {n b : Nat} {l : Int} (h0 : l ≠ 0) (h1 : -(n : Int) ≤ l) (h2 : l ≤ n) : hasI (totB n b) l = litT b l := by
  unfold hasI litT
  rw [Bool.eq_iff_iff, List.contains_iff_mem]
  constructor
  · intro hm
    obtain ⟨i, hi, he⟩ := List.mem_map.1 hm
    unfold totI at he
    by_cases ht : b.testBit i = true
    · rw [if_pos ht] at he
      rw [show l.natAbs - 1 = i by omega, ht, decide_eq_true (by omega)]; rfl
    · rw [if_neg ht] at he
      rw [show l.natAbs - 1 = i by omega, Bool.eq_false_iff.2 ht, decide_eq_false (by omega)]; rfl
  · intro hb
    refine List.mem_map.2 ⟨l.natAbs - 1, List.mem_range.2 (by omega), ?_⟩
    unfold totI
    by_cases hp : 0 < l
    · rw [decide_eq_true hp] at hb
      have : b.testBit (l.natAbs - 1) = true := by simpa using hb
      rw [if_pos this]; omega
    · rw [decide_eq_false hp] at hb
      have : b.testBit (l.natAbs - 1) = false := by simpa using hb
      rw [this, if_neg (by simp)]; omega

set_option maxRecDepth 100000 in
set_option maxHeartbeats 4000000 in
theorem l3Total_any (n b : Nat) (hn : n ≤ 12) (hb : b < 2 ^ 62) (w : World) :
    Calls Try.prog 170 #[.int .i64 n, .int .i64 b] w fun e w' => ∃ B k, e = .returned (.slice B n k) ∧ Sp w w' [Own 3 1 (.slice B n k) n ((totB n b).map (.int .i64))] := by
  have S0 := Lib.hid ((Sp.start w).own_made 3 1)
  obtain ⟨i0, hi, hz0, hz1, hz2⟩ := info_parts infoInt
  go_enter Try.func170, Try.ntmps170
  go_wp2_with fail
  go_loopw [5, 6] (fun vo vi wr => ∃ (k : Nat) (v : Int) (B : Option Addr) (cc : Nat), k ≤ n ∧ vi = .int .i64 v ∧ Hid (v = (k : Int) + 1) ∧ vo = .slice B k cc ∧ Hid (Sp w wr [Own 3 1 (.slice B k cc) k ((totB k b).map (.int .i64))])) (fun _ vi _ => n + 1 - (intOf vi).toNat)
  case atStart => exact ⟨0, 1, _, _, Nat.zero_le _, rfl, rfl, rfl, S0⟩
  case round =>
    obtain ⟨k, v, B, cc, hk, rfl, hve, rfl, HS⟩ := hrel
    clear S0
    have hve' := hve.out
    by_cases hlt : k < n
    · have hle : v ≤ (n : Int) := by omega
      have hv0 : 1 ≤ v := by omega
      have hand := bit_at b hb k
      rw [Nat.min_eq_left (by omega)] at hand
      have hw1 : IntKind.i64.wrap (v - 1) = (k : Int) := by rw [IntWalk.i64_in _ (by omega)]; omega
      have hw2 : IntKind.i64.wrap (k : Int) = (k : Int) := by rw [IntWalk.i64_in _ (by omega)]
      have hw3 : IntKind.i64.wrap (-v) = -v := by rw [IntWalk.i64_in _ (by omega)]
      have hw4 : IntKind.i64.wrap (v + 1) = v + 1 := by rw [IntWalk.i64_in _ (by omega)]
      have hsn := Lib.hid (tot_snoc k b)
      have htI : Hid (totI b k = if b.testBit k then v else -v) := by unfold Hid totI; rw [hve']
      have hk12 : k ≤ 12 := by omega
      clear hve'
      generalize b.testBit k = q at *
      cases q
      · simp only [Bool.false_eq_true, if_false] at hand htI
        have S2 := HS.out.alloc_box #[.int .i64 (-v)] 3
        have kB := S2.cell (i := 0) rfl (o := 0) rfl
        replace S2 := Lib.hid S2
        clear HS
        go_wp2_with (at_builtin; refine wpList_append_src rfl _ _ rfl Try.underlying30 hi hz0 hz1 hz2 rfl (by decide) _ _ _ rfl (S2.out.own (i := 1) rfl) _ 1 1 [.int .i64 (-v)] rfl (Src.one kB) (by simp [Value.oneCell']) ?c3 ?c4 ?_)
        case c3 => unfold maxLen; omega
        case c4 => omega
        intro vY wY hownY hgY hatY
        have S4 := (S2.out.own_push (i := 1) rfl (bb _) hownY hgY (by simpa using hatY)).tail
        obtain ⟨aY, cY, rfl⟩ := own_slice hownY
        have HS3 : Hid (Sp w wY [Own 3 1 (.slice aY (k + 1) cY) (k + 1) ((totB (k + 1) b).map (.int .i64))]) := by
          unfold Hid; rw [hsn.out, List.map_append, htI.out]; exact S4
        clear S2 S4 kB hownY hgY hatY hsn
        go_wp2_with fail
        go_roundw
        case rel => exact ⟨k + 1, v + 1, aY, cY, by omega, rfl, by have := hve.out; unfold Hid; omega, rfl, HS3⟩
        case measure => have := hve.out; simp [intOf]; omega
      · simp only [if_true] at hand htI
        have S2 := HS.out.alloc_box #[.int .i64 v] 3
        have kB := S2.cell (i := 0) rfl (o := 0) rfl
        replace S2 := Lib.hid S2
        clear HS
        go_wp2_with (at_builtin; refine wpList_append_src rfl _ _ rfl Try.underlying30 hi hz0 hz1 hz2 rfl (by decide) _ _ _ rfl (S2.out.own (i := 1) rfl) _ 1 1 [.int .i64 v] rfl (Src.one kB) (by simp [Value.oneCell']) ?c3 ?c4 ?_)
        case c3 => unfold maxLen; omega
        case c4 => omega
        intro vY wY hownY hgY hatY
        have S4 := (S2.out.own_push (i := 1) rfl (bb _) hownY hgY (by simpa using hatY)).tail
        obtain ⟨aY, cY, rfl⟩ := own_slice hownY
        have HS3 : Hid (Sp w wY [Own 3 1 (.slice aY (k + 1) cY) (k + 1) ((totB (k + 1) b).map (.int .i64))]) := by
          unfold Hid; rw [hsn.out, List.map_append, htI.out]; exact S4
        clear S2 S4 kB hownY hgY hatY hsn
        go_wp2_with fail
        go_roundw
        case rel => exact ⟨k + 1, v + 1, aY, cY, by omega, rfl, by have := hve.out; unfold Hid; omega, rfl, HS3⟩
        case measure => have := hve.out; simp [intOf]; omega
    · obtain rfl : k = n := by omega
      have hgt : ¬ v ≤ (k : Int) := by omega
      clear hve'
      go_wp2_with fail
      go_ret
      exact ⟨B, cc, rfl, HS.out⟩

/-- What l3Value tells. -/
def valP (c a : List Int) (e : Ending) : Prop := ∃ z : Int, e = .returned (.int .i64 z) ∧ (z == 1) = c.any (hasI a)
set_option maxRecDepth 100000 in
set_option maxHeartbeats 4000000 in
theorem l3Value_any (c a : List Int) (hc : ∀ l ∈ c, LitS l) (hl : c.length ≤ 1000000) (A B : Option Addr) (k k' : Nat) (F : List Nat) (w : World) (hx : IntsAt w A c) (hy : Ty.int.row false w (.slice B a.length k') a F) :
    Calls Try.prog 250 #[.slice A c.length k, .slice B a.length k'] w fun e w' => valP c a e ∧ Below w.heap.size w w' := by
  have hN := Lib.hid hx
  have hM := Lib.hid hy
  have hcc := Lib.hid hc
  have HB0 := Lib.hid (bb w)
  clear hx hy hc
  go_enter Try.func250, Try.ntmps250
  go_wp2_with fail
  go_loopw [5, 6] (fun vz vi wr => ∃ (j : Nat) (z : Int), j ≤ c.length ∧ vi = .int .i64 j ∧ vz = .int .i64 z ∧ (z = -1 ∨ z = 0) ∧ Hid ((c.take j).any (hasI a) = false) ∧ Hid (Below w.heap.size w wr)) (fun _ vi _ => c.length - (intOf vi).toNat)
  case atStart => exact ⟨0, -1, Nat.zero_le _, rfl, rfl, .inl rfl, rfl, HB0⟩
  case round =>
    obtain ⟨j, z, hj, rfl, rfl, hz, HD, HB⟩ := hrel
    clear HB0
    by_cases hlt : j < c.length
    · obtain ⟨b, off, rfl, m0⟩ := (hN.out.grow HB.out).at_ j hlt
      have hlit := hcc.out _ (List.getElem_mem hlt)
      have hw1 : IntKind.i64.wrap (-c[j]) = -c[j] := IntWalk.i64_in _ (by unfold LitS at hlit; omega)
      have hcall := Lib.hid (l2Has_any _ a F c[j] wr (Ty.row_below hM.out HB.out (Ty.row_lt hM.out)))
      have hcall2 := Lib.hid (l2Has_any _ a F (-c[j]) wr (Ty.row_below hM.out HB.out (Ty.row_lt hM.out)))
      have hno := Lib.hid (any_next (p := hasI a) hlt HD.out)
      have hyes : Hid (hasI a c[j] = true → c.any (hasI a) = true) := fun h => List.any_eq_true.2 ⟨_, List.getElem_mem hlt, h⟩
      generalize c[j] = l at *
      clear hlit
      cases h1 : hasI a l
      · have hD := Lib.hid (hno.out h1)
        rw [h1] at hcall
        clear hyes hno HD
        cases h2 : hasI a (-l)
        all_goals
          rw [h2] at hcall2
          go_wp2_with fail
          refine hcall.out.mono ?_
          rintro e w1 ⟨rfl, rfl⟩
          go_wp2_with fail
          refine hcall2.out.mono ?_
          rintro e w1 ⟨rfl, rfl⟩
          go_wp2_with fail
          go_roundw
          case rel => exact ⟨j + 1, _, by omega, by go_num, rfl, by first | exact hz | exact .inr rfl, hD, HB⟩
          case measure => simp [intOf]; omega
      · have hR := Lib.hid (hyes h1)
        rw [h1] at hcall
        clear hyes hno HD
        go_wp2_with fail
        refine hcall.out.mono ?_
        rintro e w1 ⟨rfl, rfl⟩
        go_wp2_with fail
        go_ret
        exact ⟨⟨1, rfl, by rw [hR.out]; rfl⟩, HB.out⟩
    · obtain rfl : j = c.length := by omega
      have hR : Hid (c.any (hasI a) = false) := by have := HD.out; rwa [List.take_length] at this
      go_wp2_with fail
      go_ret
      exact ⟨⟨z, rfl, by rw [hR.out]; rcases hz with rfl | rfl <;> rfl⟩, HB.out⟩
end Go.Proofs.Ytmikconjhmhekaa

/- Contract: total assignments in the program. -/
namespace Go.Proofs.Ytmikconjhmhekaa
open Go.RowKit

set_option maxRecDepth 100000 in
set_option maxHeartbeats 4000000 in
theorem total_any (n b : Nat) (hn : n ≤ 12) (hb : b < 2 ^ 62) (w : World) :
    Calls Try.prog 91 #[.int .i64 n, .int .i64 b] w fun e w' => ∃ B k, e = .returned (.slice B n k) ∧ Sp w w' [Own 3 1 (.slice B n k) n ((totB n b).map (.int .i64))] := by
  have S0 := Lib.hid ((Sp.start w).own_nil 3 1)
  obtain ⟨i0, hi, hz0, hz1, hz2⟩ := info_parts infoInt
  go_enter Try.func91, Try.ntmps91
  go_wp2_with fail
  go_loopw [5, 6] (fun vo vi wr => ∃ (k : Nat) (v : Int) (B : Option Addr) (cc : Nat), k ≤ n ∧ vi = .int .i64 v ∧ Hid (v = (k : Int) + 1) ∧ vo = .slice B k cc ∧ Hid (Sp w wr [Own 3 1 (.slice B k cc) k ((totB k b).map (.int .i64))])) (fun _ vi _ => n + 1 - (intOf vi).toNat)
  case atStart => exact ⟨0, 1, _, _, Nat.zero_le _, rfl, rfl, rfl, S0⟩
  case round =>
    obtain ⟨k, v, B, cc, hk, rfl, hve, rfl, HS⟩ := hrel
    clear S0
    have hve' := hve.out
    by_cases hlt : k < n
    · have hle : v ≤ (n : Int) := by omega
      have hv0 : 1 ≤ v := by omega
      have hand := bit_at b hb k
      rw [Nat.min_eq_left (by omega)] at hand
      have hw1 : IntKind.i64.wrap (v - 1) = (k : Int) := by rw [IntWalk.i64_in _ (by omega)]; omega
      have hw2 : IntKind.i64.wrap (k : Int) = (k : Int) := by rw [IntWalk.i64_in _ (by omega)]
      have hw3 : IntKind.i64.wrap (-v) = -v := by rw [IntWalk.i64_in _ (by omega)]
      have hw4 : IntKind.i64.wrap (v + 1) = v + 1 := by rw [IntWalk.i64_in _ (by omega)]
      have hsn := Lib.hid (tot_snoc k b)
      have htI : Hid (totI b k = if b.testBit k then v else -v) := by unfold Hid totI; rw [hve']
      have hk12 : k ≤ 12 := by omega
      clear hve'
      generalize b.testBit k = q at *
      cases q
      · simp only [Bool.false_eq_true, if_false] at hand htI
        have S2 := HS.out.alloc_box #[.int .i64 (-v)] 3
        have kB := S2.cell (i := 0) rfl (o := 0) rfl
        replace S2 := Lib.hid S2
        clear HS
        go_wp2_with (at_builtin; refine wpList_append_src rfl _ _ rfl Try.underlying30 hi hz0 hz1 hz2 rfl (by decide) _ _ _ rfl (S2.out.own (i := 1) rfl) _ 1 1 [.int .i64 (-v)] rfl (Src.one kB) (by simp [Value.oneCell']) ?c3 ?c4 ?_)
        case c3 => unfold maxLen; omega
        case c4 => omega
        intro vY wY hownY hgY hatY
        have S4 := (S2.out.own_push (i := 1) rfl (bb _) hownY hgY (by simpa using hatY)).tail
        obtain ⟨aY, cY, rfl⟩ := own_slice hownY
        have HS3 : Hid (Sp w wY [Own 3 1 (.slice aY (k + 1) cY) (k + 1) ((totB (k + 1) b).map (.int .i64))]) := by
          unfold Hid; rw [hsn.out, List.map_append, htI.out]; exact S4
        clear S2 S4 kB hownY hgY hatY hsn
        go_wp2_with fail
        go_roundw
        case rel => exact ⟨k + 1, v + 1, aY, cY, by omega, rfl, by have := hve.out; unfold Hid; omega, rfl, HS3⟩
        case measure => have := hve.out; simp [intOf]; omega
      · simp only [if_true] at hand htI
        have S2 := HS.out.alloc_box #[.int .i64 v] 3
        have kB := S2.cell (i := 0) rfl (o := 0) rfl
        replace S2 := Lib.hid S2
        clear HS
        go_wp2_with (at_builtin; refine wpList_append_src rfl _ _ rfl Try.underlying30 hi hz0 hz1 hz2 rfl (by decide) _ _ _ rfl (S2.out.own (i := 1) rfl) _ 1 1 [.int .i64 v] rfl (Src.one kB) (by simp [Value.oneCell']) ?c3 ?c4 ?_)
        case c3 => unfold maxLen; omega
        case c4 => omega
        intro vY wY hownY hgY hatY
        have S4 := (S2.out.own_push (i := 1) rfl (bb _) hownY hgY (by simpa using hatY)).tail
        obtain ⟨aY, cY, rfl⟩ := own_slice hownY
        have HS3 : Hid (Sp w wY [Own 3 1 (.slice aY (k + 1) cY) (k + 1) ((totB (k + 1) b).map (.int .i64))]) := by
          unfold Hid; rw [hsn.out, List.map_append, htI.out]; exact S4
        clear S2 S4 kB hownY hgY hatY hsn
        go_wp2_with fail
        go_roundw
        case rel => exact ⟨k + 1, v + 1, aY, cY, by omega, rfl, by have := hve.out; unfold Hid; omega, rfl, HS3⟩
        case measure => have := hve.out; simp [intOf]; omega
    · obtain rfl : k = n := by omega
      have hgt : ¬ v ≤ (k : Int) := by omega
      clear hve'
      go_wp2_with fail
      go_ret
      exact ⟨B, cc, rfl, HS.out⟩
end Go.Proofs.Ytmikconjhmhekaa

/- Contracts: clauses and Cnfs at bits, in the reference. -/
namespace Go.Proofs.Ytmikconjhmhekaa
open Go.RowKit

theorem cl_next {c : List Int} {k : Nat} (hk : k < c.length) (b : Nat) : clT (c.take (k + 1)) b = (clT (c.take k) b || litT b c[k]) := by
  unfold clT
  rw [List.take_succ_eq_append_getElem hk, List.any_append]
  simp
theorem cl_take {c : List Int} {k b : Nat} (h : clT (c.take k) b = true) : clT c b = true := by
  unfold clT at *
  rw [List.any_eq_true] at *
  obtain ⟨x, hx, h⟩ := h
  exact ⟨x, List.mem_of_mem_take hx, h⟩
theorem md_next {xss : List (List Int)} {j : Nat} (hj : j < xss.length) (b : Nat) : modT (xss.take (j + 1)) b = (modT (xss.take j) b && clT xss[j] b) := by
  unfold modT
  rw [List.take_succ_eq_append_getElem hj, List.all_append]
  simp
theorem md_take {xss : List (List Int)} {j b : Nat} (h : modT (xss.take j) b = false) : modT xss b = false := by
  unfold modT at *
  rw [List.all_eq_false] at *
  obtain ⟨x, hx, h⟩ := h
  exact ⟨x, List.mem_of_mem_take hx, h⟩

set_option maxRecDepth 100000 in
set_option maxHeartbeats 4000000 in
theorem l5True_any (c : List Int) (hc : ∀ l ∈ c, LitS l) (hl : c.length ≤ 1000000) (A : Option Addr) (cap b : Nat) (hb : b < 2 ^ 62) (w : World) (hx : IntsAt w A c) :
    Calls Try.prog 185 #[.slice A c.length cap, .int .i64 b] w fun e w' => e = .returned (.bool (clT c b)) ∧ Below w.heap.size w w' := by
  have hN := Lib.hid hx
  have hcc := Lib.hid hc
  clear hx hc
  go_enter Try.func185, Try.ntmps185
  go_wp2_with fail
  go_loopw [5] (fun vi wr => ∃ k : Nat, k ≤ c.length ∧ vi = .int .i64 k ∧ Hid (clT (c.take k) b = false) ∧ Hid (Below w.heap.size w wr)) (fun vi _ => c.length - (intOf vi).toNat)
  case atStart => exact ⟨0, Nat.zero_le _, rfl, rfl, bb _⟩
  case round =>
    obtain ⟨k, hk, rfl, hno, HB⟩ := hrel
    by_cases hlt : k < c.length
    · obtain ⟨ab, off, rfl, m0⟩ := (hN.out.grow HB.out).at_ k hlt
      have hlk := hcc.out _ (List.getElem_mem hlt)
      have hnx := Lib.hid (cl_next hlt b)
      have hall := Lib.hid (fun h => cl_take (c := c) (k := k + 1) (b := b) h)
      generalize c[k] = l at *
      obtain ⟨m, hm⟩ : ∃ m, l.natAbs = m + 1 := ⟨l.natAbs - 1, by unfold LitS at hlk; omega⟩
      have ha := fun W => l2Var_at (absV_lit hlk) W
      have hand := bit_at b hb m
      have hR : Hid (litT b l = (b.testBit (l.natAbs - 1) == decide (0 < l))) := rfl
      rw [hm, show m + 1 - 1 = m by omega] at hR
      rw [hm, show ((m + 1 : Nat) : Int) = (m : Int) + 1 by omega] at ha
      have hw1 : IntKind.i64.wrap ((m : Int) + 1 - 1) = (m : Int) := by rw [IntWalk.i64_in _ (by unfold LitS at hlk; omega)]; omega
      have hw2 : IntKind.i64.wrap (m : Int) = (m : Int) := by rw [IntWalk.i64_in _ (by unfold LitS at hlk; omega)]
      have hm2 : m ≤ 1000 := by unfold LitS at hlk; omega
      generalize b.testBit m = q at *
      replace ha := Lib.hid ha
      clear hm hlk
      go_upto_region 4 with fail
      go_cut [27] (fun s wx => s = .bool (litT b l) ∧ Hid (Below w.heap.size w wx))
      case first =>
        cases hp : decide (0 < l)
        all_goals
          rw [hp] at hR
          cases q
        all_goals
          as_aux_lemma =>
          simp only [if_true, if_false, Bool.false_eq_true] at hand
          refine wp_region_held_lit (S := (fun w' => w'.cell? ⟨ab, off + k, none⟩ = some (.int .i64 l))) 16 [false, false, false, false, false, false, false, false, false, false, false, false, false, false, false, false] (by kernel_rfl) (by kernel_rfl) (by kernel_rfl) ?_ ?_
          · exact m0
          intro hS
          (refine wpAnyH_take (i := 0) (v := ?_) rfl (by kernel_rfl) (by kernel_rfl) (by kernel_rfl) (fun _ _ _ h => h) (Or.inl ⟨by rfl, ?_⟩) (by assumption) ?_; rotate_left; (focus (intro w hSw; (try dsimp only at hSw); go_simp; (try with_reducible rfl); done)); (try simp only [put_rules]))
          (refine wpAnyH_take (i := 1) (v := ?_) rfl (by kernel_rfl) (by kernel_rfl) (by kernel_rfl) (fun _ _ _ h => h) (Or.inl ⟨by rfl, ?_⟩) (by assumption) ?_; rotate_left; (focus (intro w hSw; (try dsimp only at hSw); go_simp; (try with_reducible rfl); done)); (try simp only [put_rules]))
          (refine wpAnyH_take (i := 2) (v := ?_) rfl (by kernel_rfl) (by kernel_rfl) (by kernel_rfl) (fun _ _ _ h => h) (Or.inl ⟨by rfl, ?_⟩) (by assumption) ?_; rotate_left; (focus (intro w hSw; (try dsimp only at hSw); go_simp; (try with_reducible rfl); done)); (try simp only [put_rules]))
          (refine wpAnyH_take (i := 3) (v := ?_) rfl (by kernel_rfl) (by kernel_rfl) (by kernel_rfl) (fun _ _ _ h => h) (Or.inl ⟨by rfl, ?_⟩) (by assumption) ?_; rotate_left; (focus (intro w hSw; (try dsimp only at hSw); go_simp; (try with_reducible rfl); done)); (try simp only [put_rules]))
          (refine wpAnyH_take (i := 4) (v := ?_) rfl (by kernel_rfl) (by kernel_rfl) (by kernel_rfl) (fun _ _ _ h => h) (Or.inl ⟨by rfl, ?_⟩) (by assumption) ?_; rotate_left; (focus (intro w hSw; (try dsimp only at hSw); go_simp; (try with_reducible rfl); done)); (try simp only [put_rules]))
          (refine wpAnyH_take (i := 10) (v := ?_) rfl (by kernel_rfl) (by kernel_rfl) (by kernel_rfl) (fun _ _ _ h => h) (Or.inl ⟨by rfl, ?_⟩) (by assumption) ?_; rotate_left; (focus (intro w hSw; (try dsimp only at hSw); go_simp; (try with_reducible rfl); done)); (try simp only [put_rules]))
          (refine wpAnyH_take (i := 11) (v := ?_) rfl (by kernel_rfl) (by kernel_rfl) (by kernel_rfl) (fun _ _ _ h => h) (Or.inl ⟨by rfl, ?_⟩) (by assumption) ?_; rotate_left; (focus (intro w hSw; (try dsimp only at hSw); go_simp; (try with_reducible rfl); done)); (try simp only [put_rules]))
          (refine wpAnyH_take (i := 12) (v := ?_) rfl (by kernel_rfl) (by kernel_rfl) (by kernel_rfl) (fun _ _ _ h => h) (Or.inl ⟨by rfl, ?_⟩) (by assumption) ?_; rotate_left; (focus (intro w hSw; (try dsimp only at hSw); go_simp; (try with_reducible rfl); done)); (try simp only [put_rules]))
          (refine wpAnyH_take (i := 13) (v := ?_) rfl (by kernel_rfl) (by kernel_rfl) (by kernel_rfl) (fun _ _ _ h => h) (Or.inl ⟨by rfl, ?_⟩) (by assumption) ?_; rotate_left; (focus (intro w hSw; (try dsimp only at hSw); go_simp; (try with_reducible rfl); done)); (try simp only [put_rules]))
          (refine wpAnyH_take (i := 14) (v := ?_) rfl (by kernel_rfl) (by kernel_rfl) (by kernel_rfl) (fun _ _ _ h => h) (Or.inl ⟨by rfl, ?_⟩) (by assumption) ?_; rotate_left; (focus (intro w hSw; (try dsimp only at hSw); go_simp; (try with_reducible rfl); done)); (try simp only [put_rules]))
          (refine wpAnyH_ready (rs := [5]) (by kernel_rfl) (by simp) ?_; refine AllReadyH.cons rfl (fun K hK => ?_) AllReadyH.nil)
          go_simp
          go_at_call 196
          refine (ha.out _).mono ?_
          rintro e w3 ⟨rfl, hb3⟩
          have hS3 := ((bcell hb3).1 _ _ (World.block_lt_of_cell? _ _ hS)).trans hS
          have HB3 := Lib.hid (btr (btr HB.out (bdr (bb _))) hb3)
          go_wp2_with fail
          refine hK.out _ _ hS3 (fun hS2 => ?_)
          clear hK
          (try simp only [put_rules])
          (refine wpAnyH_take (i := 6) (v := ?_) rfl (by kernel_rfl) (by kernel_rfl) (by kernel_rfl) (fun _ _ _ h => h) (Or.inl ⟨by rfl, ?_⟩) (by assumption) ?_; rotate_left; (focus (intro w hSw; (try dsimp only at hSw); go_simp; (try with_reducible rfl); done)); (try simp only [put_rules]))
          (refine wpAnyH_take (i := 7) (v := ?_) rfl (by kernel_rfl) (by kernel_rfl) (by kernel_rfl) (fun _ _ _ h => h) (Or.inl ⟨by rfl, ?_⟩) (by assumption) ?_; rotate_left; (focus (intro w hSw; (try dsimp only at hSw); go_simp; (try with_reducible rfl); done)); (try simp only [put_rules]))
          (refine wpAnyH_take (i := 8) (v := ?_) rfl (by kernel_rfl) (by kernel_rfl) (by kernel_rfl) (fun _ _ _ h => h) (Or.inl ⟨by rfl, ?_⟩) (by assumption) ?_; rotate_left; (focus (intro w hSw; (try dsimp only at hSw); go_simp; (try with_reducible rfl); done)); (try simp only [put_rules]))
          (refine wpAnyH_take (i := 9) (v := ?_) rfl (by kernel_rfl) (by kernel_rfl) (by kernel_rfl) (fun _ _ _ h => h) (Or.inl ⟨by rfl, ?_⟩) (by assumption) ?_; rotate_left; (focus (intro w hSw; (try dsimp only at hSw); go_simp; (try with_reducible rfl); done)); (try simp only [put_rules]))
          (refine wpAnyH_take (i := 15) (v := ?_) rfl (by kernel_rfl) (by kernel_rfl) (by kernel_rfl) (fun _ _ _ h => h) (Or.inl ⟨by rfl, ?_⟩) (by assumption) ?_; rotate_left; (focus (intro w hSw; (try dsimp only at hSw); go_simp; (try with_reducible rfl); done)); (try simp only [put_rules]))
          (refine wpAnyH_done (by kernel_rfl) ?_ _)
          go_wp2_with fail
          go_meet
          exact ⟨by rw [hR.out]; rfl, HB3⟩
      case rest =>
      obtain ⟨rfl, HB2⟩ := hcut
      clear HB m0 ha hand hR hw1 hw2
      cases hq : litT b l
      · have hno2 : Hid (clT (c.take (k + 1)) b = false) := by unfold Hid; rw [hnx.out, hno.out, hq]; rfl
        go_wp2_with fail
        go_roundw
        case rel => exact ⟨k + 1, by omega, by go_num, hno2, HB2⟩
        case measure => simp [intOf]; omega
      · have hyes : clT c b = true := hall.out (by rw [hnx.out, hq]; simp)
        go_wp2_with fail
        go_ret
        exact ⟨ret_bool hyes.symm, HB2.out⟩
    · obtain rfl : k = c.length := by omega
      have hno' : clT c b = false := by have := hno.out; rwa [List.take_length] at this
      go_wp2_with fail
      go_ret
      exact ⟨ret_bool hno'.symm, HB.out⟩

set_option maxHeartbeats 4000000 in
theorem l5All_any (xss : List (List Int)) (hc : ∀ c ∈ xss, ClS c) (hl : xss.length ≤ 1000000) (A : Option Addr) (cap b : Nat) (hb : b < 2 ^ 62) (w : World) (hx : ClsAt w A xss) :
    Calls Try.prog 88 #[.slice A xss.length cap, .int .i64 b] w fun e w' => e = .returned (.bool (modT xss b)) ∧ Below w.heap.size w w' := by
  have hN := Lib.hid hx
  have hcc := Lib.hid hc
  clear hx hc
  go_enter Try.func88, Try.ntmps88
  go_wp2_with fail
  go_loopw [5] (fun vi wr => ∃ k : Nat, k ≤ xss.length ∧ vi = .int .i64 k ∧ Hid (modT (xss.take k) b = true) ∧ Hid (Below w.heap.size w wr)) (fun vi _ => xss.length - (intOf vi).toNat)
  case atStart => exact ⟨0, Nat.zero_le _, rfl, rfl, bb _⟩
  case round =>
    obtain ⟨k, hk, rfl, hno, HB⟩ := hrel
    by_cases hlt : k < xss.length
    · obtain ⟨ab, off, B, c, rfl, m0, hI⟩ := (hN.out.grow HB.out).at_ k hlt
      have hcl := hcc.out _ (List.getElem_mem hlt)
      have hnx := Lib.hid (md_next hlt b)
      have hall := Lib.hid (fun h => md_take (xss := xss) (j := k + 1) (b := b) h)
      generalize xss[k] = cl at *
      have htr := Lib.hid (l5True_any cl hcl.1 (Nat.le_trans hcl.2 (by omega)) B c b hb wr hI)
      clear hI hcl
      generalize hq : clT cl b = q at *
      go_wp2_with fail
      refine htr.out.mono ?_
      rintro e w3 ⟨rfl, hb3⟩
      have HB2 := Lib.hid (btr HB.out hb3)
      clear HB htr hb3 m0
      cases q
      · have hyes : modT xss b = false := hall.out (by rw [hnx.out]; simp)
        go_wp2_with fail
        go_ret
        exact ⟨ret_bool hyes.symm, HB2.out⟩
      · have hno2 : Hid (modT (xss.take (k + 1)) b = true) := by unfold Hid; rw [hnx.out, hno.out]; rfl
        go_wp2_with fail
        go_roundw
        case rel => exact ⟨k + 1, by omega, by go_num, hno2, HB2⟩
        case measure => simp [intOf]; omega
    · obtain rfl : k = xss.length := by omega
      have hno' : modT xss b = true := by have := hno.out; rwa [List.take_length] at this
      go_wp2_with fail
      go_ret
      exact ⟨ret_bool hno'.symm, HB.out⟩
end Go.Proofs.Ytmikconjhmhekaa

/- Contracts: models that are counted and the least one, in the reference. -/
namespace Go.Proofs.Ytmikconjhmhekaa
open Go.RowKit

def cntP (p : Nat → Bool) (k : Nat) : Nat := ((List.range k).filter p).length
theorem cntP_no {p : Nat → Bool} {k : Nat} (h : p k = false) : cntP p (k + 1) = cntP p k := by simp [cntP, List.range_succ, List.filter_append, h]
theorem cntP_yes {p : Nat → Bool} {k : Nat} (h : p k = true) : cntP p (k + 1) = cntP p k + 1 := by simp [cntP, List.range_succ, List.filter_append, h]
theorem cntP_le (p : Nat → Bool) (k : Nat) : cntP p k ≤ k := Nat.le_trans (List.length_filter_le _ _) (by simp)

set_option maxRecDepth 100000 in
set_option maxHeartbeats 4000000 in
theorem l5Models_any (n : Nat) (hn : n ≤ 12) (xss : List (List Int)) (hc : ∀ c ∈ xss, ClS c) (hl : xss.length ≤ 1000000) (A : Option Addr) (cap : Nat) (w : World) (hx : ClsAt w A xss) :
    Calls Try.prog 86 #[.agg #[.int .i64 n, .slice A xss.length cap]] w fun e w' => e = .returned (.int .i64 (cntP (modT xss) (2 ^ n))) ∧ Below w.heap.size w w' := by
  obtain ⟨hsh, hp⟩ := pow12 hn
  have S0 := (Sp.start w).alloc_box #[.int .i64 n, .slice A xss.length cap] 26
  have hcall := Lib.hid (fun b (hb : b < 4096) W (h : Below w.heap.size w W) => l5All_any xss hc hl A cap b (Nat.lt_trans hb (by decide)) W (hx.grow h))
  replace S0 := Lib.hid S0
  have hcl := Lib.hid (cntP_le (modT xss))
  clear hc hx
  generalize 2 ^ n = N at *
  go_enter Try.func86, Try.ntmps86
  go_wp2_with fail
  go_loopw [3, 4] (fun vn vi wr => ∃ k : Nat, k ≤ N ∧ vi = .int .i64 k ∧ vn = .int .i64 (cntP (modT xss) k) ∧ Hid (Sp w wr [Box w.heap.size 26 #[.int .i64 n, .slice A xss.length cap]])) (fun _ vi _ => N - (intOf vi).toNat)
  case atStart => exact ⟨0, Nat.zero_le _, rfl, rfl, S0⟩
  case round =>
    obtain ⟨k, hk, rfl, rfl, HS⟩ := hrel
    clear S0
    have c0 := HS.out.cell (i := 0) rfl (o := 0) rfl
    have c1 := HS.out.cell (i := 0) rfl (o := 1) rfl
    by_cases hlt : k < N
    · have d0 : decide ((k : Int) < (N : Int)) = true := decide_eq_true (Int.ofNat_lt.2 hlt)
      have hk4 : k < 4096 := Nat.lt_of_lt_of_le hlt hp
      have hall := Lib.hid (hcall.out k hk4 wr HS.out.below)
      have hck := hcl.out k
      have hno := Lib.hid (fun h => cntP_no (p := modT xss) (k := k) h)
      have hyes := Lib.hid (fun h => cntP_yes (p := modT xss) (k := k) h)
      generalize modT xss k = q at *
      go_wp2_with fail
      refine hall.out.mono ?_
      rintro e w3 ⟨rfl, hb3⟩
      have S3 := Lib.hid (HS.out.grow hb3)
      clear HS hall hb3 c0 c1
      cases q
      · have hn2 := hno.out rfl
        go_wp2_with fail
        go_roundw
        case rel => exact ⟨k + 1, by omega, by go_num, by rw [hn2], S3⟩
        case measure => simp [intOf]; omega
      · have hn2 := Lib.hid (hyes.out rfl)
        generalize cntP (modT xss) k = c at *
        have hwc : IntKind.i64.wrap ((c : Int) + 1) = (c : Int) + 1 := IntWalk.i64_in _ (by omega)
        go_wp2_with fail
        go_roundw
        case rel => exact ⟨k + 1, by omega, by go_num, by rw [hn2.out]; rfl, S3⟩
        case measure => simp [intOf]; omega
    · obtain rfl : k = N := by omega
      have d0 : decide ((k : Int) < (k : Int)) = false := by simp
      have hB := Lib.hid HS.out.below
      clear HS
      go_wp2_with fail
      go_ret
      exact ⟨rfl, hB.out⟩
end Go.Proofs.Ytmikconjhmhekaa
