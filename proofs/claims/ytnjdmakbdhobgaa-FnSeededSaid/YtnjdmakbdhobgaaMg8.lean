/- Lemmas and contracts for a law, put together out of several texts: SeI SeJ AsJ PnN PlB NumT TxA TxB TxC TxD TxE TxF CyA CyB CyC CyD CyE CyF AsK AsL AsM SeK. -/
import Derived.Test.YtnjdmakbdhobgaaMg7
import Derived.Test.YtnjdmakbdhobgaaMg4
import Derived.Test.YtnjdmakbdhobgaaMg6
import Derived.Test.YtnjdmakbdhobgaaMg1
import Derived.Test.YtnjdmakbdhobgaaMg2
import Derived.Lib.QuietBelow
import Derived.BigQuiet
import Derived.Test.YtnjdmakbdhobgaaMg3
import Derived.Test.YtnjdmakbdhobgaaMg5
/- Contracts: the draws of FnSeeded. -/
namespace Go.Proofs.Ytnjdmakbdhobgaa
open Go.RowKit

section
variable {w0 w w' w1 : World} {g cl cc A A' : Nat} {ca : Option Addr} {ps qs : List Asn}
theorem seCur_new (hc : CodeOk w ca cl) (hs : cl ≤ 65536) : CurIs 0 w.heap.size ca cl cc (w.alloc (.cells #[.slice ca cl cc, .int .i64 0, .int .u64 0] 43)) :=
  (((Sp.start w).new (q := CurA 0 w.heap.size ca cl cc) (bal (bb _) (.cells #[.slice ca cl cc, .int .i64 0, .int .u64 0] 43)) (F := [w.heap.size]) ⟨rfl, 0, 0, heap_alloc_new w _, Nat.le_refl 0, Int.le_refl 0, by omega⟩ (by simp)).cur (A' := 0) (i := 0) rfl hc hs).1
theorem seCs_sp {w w1 w' : World} {g cl cc A : Nat} {ca : Option Addr} {ps : List Asn} (h : CS w1 g ca cl cc A w' ps) (hb : Below w.heap.size w w1) (hg : w.heap.size ≤ g) : Sp w w' ps := by
  have hc := h.chg
  obtain ⟨_, _, _, F, h3, h4⟩ := h
  exact ⟨hb.trans (hc.below hb.size (by simpa using hg)), F, h3, fun b hm => Nat.le_trans hb.size (h4 b hm)⟩
/-- One of some numbers. -/
theorem among_cs {lo hi : Int} (xs : List Int) (S : CS w0 g ca cl cc A w ps) (hA : A ≤ 100000) (h0 : 0 < xs.length) (h1 : xs.length ≤ 1000) (hx : ∀ x ∈ xs, lo ≤ x ∧ x ≤ hi) :
    Calls Try.prog 14 #[.pointer (some ⟨g, 0, none⟩), .slice (some ⟨w.heap.size, 0, none⟩) xs.length xs.length] (w.alloc (.cells (xs.map (Value.int .i64)).toArray 3))
      fun e w' => ∃ x : Int, (lo ≤ x ∧ x ≤ hi) ∧ e = .returned (.int .i64 x) ∧ CS w0 g ca cl cc (A + 2) w' ps := by
  have hg := S.cur.lt
  refine (cur_among lo hi w.heap.size 0 xs.length xs.length A g ca cl cc _ (S.cur.grow (bal (bb _) _)) (by omega) h0 (by omega) (ints_new rfl fun j hj => ⟨xs[j], by simp [List.getElem?_eq_getElem hj], (hx _ (List.getElem_mem hj)).1, (hx _ (List.getElem_mem hj)).2⟩) (by omega)).mono ?_
  rintro e w1 ⟨_, ⟨n, hn0, hn1, rfl⟩, rfl, hi1, hc1⟩
  exact ⟨n, ⟨hn0, hn1⟩, rfl, (S.alloc _).turn hi1 hc1⟩
end
theorem mostE_any (b : Int) (w : World) : Calls Try.prog 30 #[.int .i64 1, .int .i64 b] w fun e w' => e = .returned (.int .i64 (if b < 1 then 1 else b)) ∧ w = w' := by
  by_cases h : b < 1
  · have d1 : decide (b < 1) = true := decide_eq_true h
    rw [if_pos h]
    go_enter Try.func30, Try.ntmps30
    go_wp2_with fail
    go_ret
    exact ⟨rfl, rfl⟩
  · have d1 : decide (b < 1) = false := decide_eq_false h
    rw [if_neg h]
    go_enter Try.func30, Try.ntmps30
    go_wp2_with fail
    go_ret
    exact ⟨rfl, rfl⟩

set_option maxRecDepth 100000 in
set_option maxHeartbeats 4000000 in
theorem drawSeeded_any (ca : Option Addr) (cl cc : Nat) (w : World) (hc : CodeOk w ca cl) (hs : cl ≤ 65536) :
    Calls Try.prog 5 #[.slice ca cl cc] w fun e w' => ∃ a b c d : Int, e = .returned (.tuple #[.int .i64 a, .int .i64 b, .int .i64 c, .int .i64 d]) ∧ Below w.heap.size w w' := by
  have S0 := Lib.hid (CS.start (seCur_new (cc := cc) hc hs))
  have hB := Lib.hid (bal (bb w) (.cells #[.slice ca cl cc, .int .i64 0, .int .u64 0] 43))
  have hge : Hid (w.heap.size ≤ w.heap.size) := Nat.le_refl _
  clear hc
  go_enter Try.func5, Try.ntmps5
  go_wp2_with fail
  rw [show w.heap.size + 1 = (w.alloc (.cells #[.slice ca cl cc, .int .i64 0, .int .u64 0] 43)).heap.size from (World.size_alloc _ _).symm]
  generalize w.alloc (.cells #[.slice ca cl cc, .int .i64 0, .int .u64 0] 43) = wc at *
  refine (among_cs (lo := -1) (hi := 10000) [3, 4, 5, 12, 1, 0, 13] S0.out (by omega) (by decide) (by decide) (by decide)).mono ?_
  rintro e w1 ⟨a, ha, rfl, S1⟩
  replace S1 := Lib.hid S1
  clear S0
  go_wp2_with fail
  refine (among_cs (lo := -1) (hi := 10000) [3, 8, 12, 0, 60, 61, -1] S1.out (by omega) (by decide) (by decide) (by decide)).mono ?_
  rintro e w2 ⟨b, hb, rfl, S2⟩
  replace S2 := Lib.hid S2
  clear S1
  go_wp2_with fail
  refine (among_cs (lo := -1) (hi := 10000) [2, 3, 1, 3, 0, 5] S2.out (by omega) (by decide) (by decide) (by decide)).mono ?_
  rintro e w3 ⟨c, hc, rfl, S3⟩
  replace S3 := Lib.hid S3
  clear S2
  go_wp2_with fail
  refine (cur_pick_at (lo := 0) (hi := 9998) S3.out.cur (by omega) (by omega) (by omega) (by omega) (by omega)).mono ?_
  rintro e w4 ⟨_, ⟨x, hx0, hx1, rfl⟩, rfl, hi4, hc4⟩
  have S4 := Lib.hid (S3.out.turn hi4 hc4)
  clear S3 hi4 hc4
  go_wp2_with fail
  refine (among_cs (lo := -1) (hi := 10000) [1, 7, 0, 9999, x, 10000, -1] S4.out (by omega) (by simp) (by simp) (fun y hy => by
    simp only [List.mem_cons, List.mem_nil_iff, or_false] at hy
    omega)).mono ?_
  rintro e w5 ⟨d, hd, rfl, S5⟩
  have S6 := Lib.hid (seCs_sp S5 hB.out hge.out).below
  clear S4 S5 hB
  go_wp2_with fail
  exact bodyPost_ret (v := .tuple #[.int .i64 a, .int .i64 b, .int .i64 c, .int .i64 d]) (by simp [results, Try.results5, go_sem]) rfl ⟨a, b, c, d, rfl, S6.out⟩
end Go.Proofs.Ytnjdmakbdhobgaa

/- Contract: the drawn coloring. Printed by gen_sei.py. -/
namespace Go.Proofs.Ytnjdmakbdhobgaa
open Go.RowKit

def pairV (e : Int × Int) : List Value := [.int .i64 e.1, .int .i64 e.2]
abbrev Edges (A : Option Addr) (c : Nat) (es : List (Int × Int)) : Asn := Own 64 2 (.slice A es.length c) es.length (es.flatMap pairV)
theorem infoPairE : (Try.prog.info? 64).map (fun i => (i.zero, i.size, i.bytes)) = some (some (.agg #[.int .i64 0, .int .i64 0]), 2, 16) := by kernel_rfl
theorem srcPair {w : World} {b : Nat} {x y : Value} (h : w.cell? ⟨b, 0, none⟩ = some x) (h2 : w.cell? ⟨b, 1, none⟩ = some y) : Src w (some ⟨b, 0, none⟩) 1 2 [x, y] := .inr ⟨_, rfl, rfl, fun j u hj => by
    match j, hj with
    | 0, hj => simp at hj; subst hj; rw [add_none]; exact h
    | 1, hj => simp at hj; subst hj; rw [add_none]; exact h2⟩
theorem edge_snoc {w0 w : World} {g cl cc A0 c : Nat} {ca A : Option Addr} {ps : List Asn} {es : List (Int × Int)} {x y : Int}
    (S : CS w0 g ca cl cc A0 w (Own 64 2 (.slice A (es.length + 1) c) (es.length + 1) (es.flatMap pairV ++ [.int .i64 x, .int .i64 y]) :: ps)) : CS w0 g ca cl cc A0 w (Edges A c (es ++ [(x, y)]) :: ps) := by
  unfold Edges
  rw [List.flatMap_append, List.length_append]; exact S
def AllE (es : List (Int × Int)) : Prop := ∀ e ∈ es, (0 ≤ e.1 ∧ e.1 ≤ 20) ∧ 0 ≤ e.2 ∧ e.2 ≤ 20
theorem AllE.snoc {es : List (Int × Int)} (h : AllE es) {x y : Int} (hx : 0 ≤ x ∧ x ≤ 20) (hy : 0 ≤ y ∧ y ≤ 20) : AllE (es ++ [(x, y)]) := fun e he => by
  rcases List.mem_append.1 he with he | he
  · exact h e he
  · rw [List.mem_singleton] at he; subst he; exact ⟨hx, hy⟩
theorem flat_pair_get : ∀ (es : List (Int × Int)) (j : Nat) (hj : j < es.length), (es.flatMap pairV)[j * 2]? = some (.int .i64 es[j].1) ∧ (es.flatMap pairV)[j * 2 + 1]? = some (.int .i64 es[j].2)
  | [], _, hj => absurd hj (by simp)
  | e :: es, 0, _ => ⟨rfl, rfl⟩
  | e :: es, j + 1, hj => by
    have h := flat_pair_get es j (by simpa using hj)
    have e1 : (j + 1) * 2 = j * 2 + 1 + 1 := by omega
    rw [e1]
    exact h
/-- The length of a slice. -/
def lenOf : Value → Nat
  | .slice _ n _ => n
  | _ => 0
theorem Sp.edges {w0 w : World} {ps : List Asn} {i c : Nat} {A : Option Addr} {es : List (Int × Int)} (h : Sp w0 w ps) (hi : ps[i]? = some (Edges A c es)) (hok : AllE es) : EdgesAt w A es := by
  refine ⟨fun j hj => ?_, fun e he => by have := hok e he; unfold I64; omega⟩
  obtain ⟨g, cap, cur, e1, -, hh, -, -, -, ht⟩ := own_block (h.own hi) (by omega)
  simp only [Value.slice.injEq] at e1
  obtain ⟨rfl, -, rfl⟩ := e1
  obtain ⟨h1, h2⟩ := flat_pair_get es j hj
  have hg : ∀ (t : Nat) (u : Value), (es.flatMap pairV)[t]? = some u → w.cell? ⟨g, 0 + t, none⟩ = some u := fun t u hu => by
    rw [Nat.zero_add]
    rw [← ht, List.getElem?_take] at hu
    split at hu
    · refine (cell_of_row _ _ _ _ _ _ hh).trans ?_
      rw [← Array.getElem?_toList]; exact hu
    · cases hu
  exact ⟨g, 0, rfl, hg _ _ h1, by rw [Nat.add_assoc]; exact hg _ _ h2⟩

set_option maxRecDepth 100000 in
set_option maxHeartbeats 8000000 in
theorem drawColoring_any (ca : Option Addr) (cl cc : Nat) (w : World) (hc : CodeOk w ca cl) (hs : cl ≤ 65536) :
    Calls Try.prog 10 #[.slice ca cl cc] w fun e w' => ∃ (n k : Int) (es : List (Int × Int)) (A : Option Addr) (c : Nat), e = .returned (.tuple #[.int .i64 n, .slice A es.length c, .int .i64 k]) ∧ (0 ≤ n ∧ n ≤ 13) ∧ (0 ≤ k ∧ k ≤ 13) ∧ es.length ≤ 40 ∧ AllE es ∧ Sp w w' [Edges A c es] := by
  obtain ⟨iE, hiE, hzE0, hzE1, hzE2⟩ := info_parts infoPairE
  have S0 := Lib.hid (CS.start (seCur_new (cc := cc) hc hs))
  have hB := Lib.hid (bal (bb w) (.cells #[.slice ca cl cc, .int .i64 0, .int .u64 0] 43))
  have hge : Hid (w.heap.size ≤ w.heap.size) := Nat.le_refl _
  clear hc
  go_enter Try.func10, Try.ntmps10
  go_wp2_with fail
  rw [show w.heap.size + 1 = (w.alloc (.cells #[.slice ca cl cc, .int .i64 0, .int .u64 0] 43)).heap.size from (World.size_alloc _ _).symm]
  generalize w.alloc (.cells #[.slice ca cl cc, .int .i64 0, .int .u64 0] 43) = wc at *
  refine (among_cs (lo := 0) (hi := 13) [2, 3, 3, 4, 1, 6, 0, 13] S0.out (by omega) (by decide) (by decide) (by decide)).mono ?_
  rintro e w1 ⟨n, hn, rfl, S1⟩
  replace S1 := Lib.hid S1
  clear S0
  go_wp2_with fail
  refine (among_cs (lo := 0) (hi := 13) [2, 2, 3, 1, 4, 0, 13] S1.out (by omega) (by decide) (by decide) (by decide)).mono ?_
  rintro e w2 ⟨k, hk, rfl, S2⟩
  have S2b := Lib.hid (S2.own_made 64 2)
  clear S1 S2
  have hmo := Lib.hid (fun W => mostE_any n W)
  obtain ⟨q, hq⟩ : ∃ q, (if n < 1 then 1 else n) = q := ⟨_, rfl⟩
  have hqr : 1 ≤ q ∧ q ≤ 13 := by split at hq <;> omega
  rw [hq] at hmo
  replace hq := Lib.hid hq

  go_wp2_with fail
  refine (cur_pick_at (lo := 0) (hi := 5) S2b.out.cur (by omega) (by omega) (by omega) (by omega) (by omega)).mono ?_
  rintro e w3 ⟨_, ⟨m0, hm0, hm1, rfl⟩, rfl, hi3, hc3⟩
  have S3 := Lib.hid ((S2b.out.turn hi3 hc3).mono (show _ ≤ 100 + 10 * 0 by omega))
  clear S2b hi3 hc3
  go_wp2_with fail
  go_loopw [8, 9] (fun v8 v9 wr => ∃ (m : Int) (es : List (Int × Int)) (B : Option Addr) (cap : Nat), (0 ≤ m ∧ m ≤ 5) ∧ v9 = .int .i64 m ∧ v8 = .slice B es.length cap ∧ (es.length : Int) + m ≤ 5 ∧ Hid (AllE es) ∧ Hid (CS wc w.heap.size ca cl cc (100 + 10 * es.length) wr [Edges B cap es])) (fun _ v9 _ => (intOf v9).toNat)
  case atStart => exact ⟨m0, [], _, 0, ⟨hm0, hm1⟩, rfl, rfl, by simp; omega, (fun _ h => by cases h), S3⟩
  case round =>
    clear S3
    obtain ⟨m, es, B, cap, hm, rfl, rfl, hel, hAll, HS⟩ := hrel
    by_cases hlt : 0 < m
    · go_wp2_with fail
      refine (hmo.out _).mono ?_
      rintro e w4 ⟨rfl, rfl⟩
      go_wp2_with fail
      refine (cur_pick_at (lo := 0) (hi := 12) HS.out.cur (by omega) (by omega) (by omega) (by omega) (by omega)).mono ?_
      rintro e w5 ⟨_, ⟨x, hx0, hx1, rfl⟩, rfl, hi5, hc5⟩
      have S5 := Lib.hid (HS.out.turn hi5 hc5)
      clear HS hi5 hc5
      go_wp2_with fail
      refine (hmo.out _).mono ?_
      rintro e w6 ⟨rfl, rfl⟩
      go_wp2_with fail
      refine (cur_pick_at (lo := 0) (hi := 12) S5.out.cur (by omega) (by omega) (by omega) (by omega) (by omega)).mono ?_
      rintro e w7 ⟨_, ⟨y, hy0, hy1, rfl⟩, rfl, hi7, hc7⟩
      have S7 := Lib.hid (S5.out.turn hi7 hc7)
      clear S5 hi7 hc7
      have hwx : IntKind.i64.wrap (1 + x) = 1 + x := IntWalk.i64_in _ (by omega)
      have hwy : IntKind.i64.wrap (1 + y) = 1 + y := IntWalk.i64_in _ (by omega)
      by_cases hxy : x = y
      · subst hxy
        have hee : (1 + x == 1 + x) = true := by simp
        go_wp2_with fail
        refine (cur_one 8 _ _ ca cl cc _ S7.out.cur (by omega) (by omega)).mono ?_
        rintro e w8 ⟨_, ⟨b, rfl⟩, rfl, hi8, hc8⟩
        have S8 := Lib.hid (S7.out.turn hi8 hc8)
        clear S7 hi8 hc8
        cases b
        · go_wp2_with fail
          refine (hmo.out _).mono ?_
          rintro e w9 ⟨rfl, rfl⟩
          have hq0 : ¬ q = 0 := by omega
          have hr0 := Int.emod_nonneg (1 + x) hq0
          have hr1 := Int.emod_lt_of_pos (1 + x) (show 0 < q by omega)
          obtain ⟨z, hz⟩ : ∃ z, (1 + x) % q = z := ⟨_, rfl⟩
          rw [hz] at hr0 hr1
          have hwz : IntKind.i64.wrap (z + 1) = z + 1 := IntWalk.i64_in _ (by omega)
          have S3 := S8.out.alloc_box #[.int .i64 (1 + x), .int .i64 (z + 1)] 64
          have kA := S3.cell (i := 0) rfl (o := 0) rfl
          have kB := S3.cell (i := 0) rfl (o := 1) rfl
          replace S3 := Lib.hid S3
          clear S8
          go_wp2_with (at_builtin; refine wpList_append_src rfl _ _ rfl Try.underlying34 hiE hzE0 hzE1 hzE2 rfl (by decide) _ _ _ rfl (S3.out.own (i := 1) rfl) _ 1 1 [.int .i64 (1 + x), .int .i64 (z + 1)] rfl (srcPair kA kB) (by simp [Value.oneCell']) ?c3 ?c4 ?_)
          case c3 => unfold maxLen; omega
          case c4 => omega
          intro vY wY hownY hgY hatY
          have S4 := (S3.out.own_push (i := 1) rfl (bb _) hownY hgY (by simpa using hatY)).tail
          obtain ⟨aY, cY, rfl⟩ := own_slice hownY
          have S5 := Lib.hid (edge_snoc (es := es) (x := 1 + x) (y := z + 1) S4)
          clear S3 S4 kA kB hownY hgY hatY
          have hlen : es.length + 1 = (es ++ [(1 + x, z + 1)]).length := by simp
          rw [hlen]
          replace hlen := Lib.hid hlen
          have hA2 := Lib.hid (hAll.out.snoc (x := 1 + x) (y := z + 1) ⟨by omega, by omega⟩ ⟨by omega, by omega⟩)
          have hl2 : ((es ++ [(1 + x, z + 1)]).length : Int) + (m - 1) ≤ 5 := by rw [← hlen.out]; omega
          have S6 := Lib.hid (S5.out.mono (show _ ≤ 100 + 10 * (es ++ [(1 + x, z + 1)]).length by rw [← hlen.out]; omega))
          clear S5 hlen
          go_wp2_with fail
          go_roundw
          case rel => exact ⟨m - 1, _, aY, cY, by omega, rfl, rfl, hl2, hA2, S6⟩
          case measure => simp [intOf]; omega
        · skip
          have S3 := S8.out.alloc_box #[.int .i64 (1 + x), .int .i64 (1 + x)] 64
          have kA := S3.cell (i := 0) rfl (o := 0) rfl
          have kB := S3.cell (i := 0) rfl (o := 1) rfl
          replace S3 := Lib.hid S3
          clear S8
          go_wp2_with (at_builtin; refine wpList_append_src rfl _ _ rfl Try.underlying34 hiE hzE0 hzE1 hzE2 rfl (by decide) _ _ _ rfl (S3.out.own (i := 1) rfl) _ 1 1 [.int .i64 (1 + x), .int .i64 (1 + x)] rfl (srcPair kA kB) (by simp [Value.oneCell']) ?c3 ?c4 ?_)
          case c3 => unfold maxLen; omega
          case c4 => omega
          intro vY wY hownY hgY hatY
          have S4 := (S3.out.own_push (i := 1) rfl (bb _) hownY hgY (by simpa using hatY)).tail
          obtain ⟨aY, cY, rfl⟩ := own_slice hownY
          have S5 := Lib.hid (edge_snoc (es := es) (x := 1 + x) (y := 1 + x) S4)
          clear S3 S4 kA kB hownY hgY hatY
          have hlen : es.length + 1 = (es ++ [(1 + x, 1 + x)]).length := by simp
          rw [hlen]
          replace hlen := Lib.hid hlen
          have hA2 := Lib.hid (hAll.out.snoc (x := 1 + x) (y := 1 + x) ⟨by omega, by omega⟩ ⟨by omega, by omega⟩)
          have hl2 : ((es ++ [(1 + x, 1 + x)]).length : Int) + (m - 1) ≤ 5 := by rw [← hlen.out]; omega
          have S6 := Lib.hid (S5.out.mono (show _ ≤ 100 + 10 * (es ++ [(1 + x, 1 + x)]).length by rw [← hlen.out]; omega))
          clear S5 hlen
          go_wp2_with fail
          go_roundw
          case rel => exact ⟨m - 1, _, aY, cY, by omega, rfl, rfl, hl2, hA2, S6⟩
          case measure => simp [intOf]; omega
      · have hee : (1 + x == 1 + y) = false := by rw [beq_eq_false_iff_ne]; omega
        have S3 := S7.out.alloc_box #[.int .i64 (1 + x), .int .i64 (1 + y)] 64
        have kA := S3.cell (i := 0) rfl (o := 0) rfl
        have kB := S3.cell (i := 0) rfl (o := 1) rfl
        replace S3 := Lib.hid S3
        clear S7
        go_wp2_with (at_builtin; refine wpList_append_src rfl _ _ rfl Try.underlying34 hiE hzE0 hzE1 hzE2 rfl (by decide) _ _ _ rfl (S3.out.own (i := 1) rfl) _ 1 1 [.int .i64 (1 + x), .int .i64 (1 + y)] rfl (srcPair kA kB) (by simp [Value.oneCell']) ?c3 ?c4 ?_)
        case c3 => unfold maxLen; omega
        case c4 => omega
        intro vY wY hownY hgY hatY
        have S4 := (S3.out.own_push (i := 1) rfl (bb _) hownY hgY (by simpa using hatY)).tail
        obtain ⟨aY, cY, rfl⟩ := own_slice hownY
        have S5 := Lib.hid (edge_snoc (es := es) (x := 1 + x) (y := 1 + y) S4)
        clear S3 S4 kA kB hownY hgY hatY
        have hlen : es.length + 1 = (es ++ [(1 + x, 1 + y)]).length := by simp
        rw [hlen]
        replace hlen := Lib.hid hlen
        have hA2 := Lib.hid (hAll.out.snoc (x := 1 + x) (y := 1 + y) ⟨by omega, by omega⟩ ⟨by omega, by omega⟩)
        have hl2 : ((es ++ [(1 + x, 1 + y)]).length : Int) + (m - 1) ≤ 5 := by rw [← hlen.out]; omega
        have S6 := Lib.hid (S5.out.mono (show _ ≤ 100 + 10 * (es ++ [(1 + x, 1 + y)]).length by rw [← hlen.out]; omega))
        clear S5 hlen
        go_wp2_with fail
        go_roundw
        case rel => exact ⟨m - 1, _, aY, cY, by omega, rfl, rfl, hl2, hA2, S6⟩
        case measure => simp [intOf]; omega
    · obtain rfl : m = 0 := by omega
      have hes5 : es.length ≤ 5 := by omega
      have S4 := Lib.hid (HS.out.mono (show _ ≤ 200 by omega))
      clear HS hmo hel
      rename World => wo
      go_wp2_with fail
      refine (cur_pick_at (lo := 0) (hi := 23) S4.out.cur (by omega) (by omega) (by omega) (by omega) (by omega)).mono ?_
      rintro e w4 ⟨_, ⟨u, hu0, hu1, rfl⟩, rfl, hi4, hc4⟩
      have S5 := Lib.hid (S4.out.turn hi4 hc4)
      clear S4 hi4 hc4
      have hu : u = 0 ∨ u = 1 ∨ 1 < u := by omega
      rcases hu with rfl | rfl | hu2
      · skip
        have S3 := S5.out.alloc_box #[.int .i64 (0), .int .i64 (1)] 64
        have kA := S3.cell (i := 0) rfl (o := 0) rfl
        have kB := S3.cell (i := 0) rfl (o := 1) rfl
        replace S3 := Lib.hid S3
        clear S5
        go_wp2_with (at_builtin; refine wpList_append_src rfl _ _ rfl Try.underlying34 hiE hzE0 hzE1 hzE2 rfl (by decide) _ _ _ rfl (S3.out.own (i := 1) rfl) _ 1 1 [.int .i64 (0), .int .i64 (1)] rfl (srcPair kA kB) (by simp [Value.oneCell']) ?c3 ?c4 ?_)
        case c3 => unfold maxLen; omega
        case c4 => omega
        intro vY wY hownY hgY hatY
        have S4 := (S3.out.own_push (i := 1) rfl (bb _) hownY hgY (by simpa using hatY)).tail
        obtain ⟨aY, cY, rfl⟩ := own_slice hownY
        have S5 := Lib.hid (edge_snoc (es := es) (x := 0) (y := 1) S4)
        clear S3 S4 kA kB hownY hgY hatY
        have hlen : es.length + 1 = (es ++ [(0, 1)]).length := by simp
        rw [hlen]
        replace hlen := Lib.hid hlen
        have hA2 := Lib.hid (hAll.out.snoc (x := 0) (y := 1) ⟨by omega, by omega⟩ ⟨by omega, by omega⟩)
        have hl2 : (es ++ [((0 : Int), (1 : Int))]).length ≤ 40 := by rw [← hlen.out]; omega
        have S6 := Lib.hid (seCs_sp S5.out hB.out hge.out)
        clear S5 hlen hB
        go_wp2_with fail
        exact bodyPost_ret (v := .tuple #[.int .i64 n, .slice aY (es ++ [((0 : Int), (1 : Int))]).length cY, .int .i64 k]) (by simp [results, Try.results10, go_sem]) rfl ⟨n, k, _, aY, cY, rfl, hn, hk, hl2, hA2.out, S6.out⟩
      · have S6 := Lib.hid (S5.out.mono (show _ ≤ 300 + 10 * es.length by omega))
        clear S5
        rename World => wo2
        go_wp2_with fail
        go_loopw [8] (fun v8 wr => ∃ (es : List (Int × Int)) (B : Option Addr) (cap : Nat), v8 = .slice B es.length cap ∧ es.length ≤ 31 ∧ Hid (AllE es) ∧ Hid (CS wc w.heap.size ca cl cc (300 + 10 * es.length) wr [Edges B cap es])) (fun v8 _ => 40 - lenOf v8)
        case atStart => exact ⟨es, B, cap, rfl, by omega, hAll, S6⟩
        case round =>
          clear S6 hAll
          obtain ⟨ds, B, cap, rfl, hel, hAll, HS⟩ := hrel
          go_wp2_with fail
          refine (cur_pick_at (lo := 0) (hi := 1) HS.out.cur (by omega) (by omega) (by omega) (by omega) (by omega)).mono ?_
          rintro e w5 ⟨_, ⟨r, hr0, hr1, rfl⟩, rfl, hi5, hc5⟩
          have S7 := Lib.hid (HS.out.turn hi5 hc5)
          clear HS hi5 hc5
          have hwr : IntKind.i64.wrap (30 + r) = 30 + r := IntWalk.i64_in _ (by omega)
          by_cases hlt2 : (ds.length : Int) < 30 + r
          · skip
            have S3 := S7.out.alloc_box #[.int .i64 (1), .int .i64 (2)] 64
            have kA := S3.cell (i := 0) rfl (o := 0) rfl
            have kB := S3.cell (i := 0) rfl (o := 1) rfl
            replace S3 := Lib.hid S3
            clear S7
            go_wp2_with (at_builtin; refine wpList_append_src rfl _ _ rfl Try.underlying34 hiE hzE0 hzE1 hzE2 rfl (by decide) _ _ _ rfl (S3.out.own (i := 1) rfl) _ 1 1 [.int .i64 (1), .int .i64 (2)] rfl (srcPair kA kB) (by simp [Value.oneCell']) ?c3 ?c4 ?_)
            case c3 => unfold maxLen; omega
            case c4 => omega
            intro vY wY hownY hgY hatY
            have S4 := (S3.out.own_push (i := 1) rfl (bb _) hownY hgY (by simpa using hatY)).tail
            obtain ⟨aY, cY, rfl⟩ := own_slice hownY
            have S5 := Lib.hid (edge_snoc (es := ds) (x := 1) (y := 2) S4)
            clear S3 S4 kA kB hownY hgY hatY
            have hlen : ds.length + 1 = (ds ++ [(1, 2)]).length := by simp
            rw [hlen]
            replace hlen := Lib.hid hlen
            have hA2 := Lib.hid (hAll.out.snoc (x := 1) (y := 2) ⟨by omega, by omega⟩ ⟨by omega, by omega⟩)
            have hl2 : (ds ++ [((1 : Int), (2 : Int))]).length ≤ 31 := by rw [← hlen.out]; omega
            have S6 := Lib.hid (S5.out.mono (show _ ≤ 300 + 10 * (ds ++ [((1 : Int), (2 : Int))]).length by rw [← hlen.out]; omega))
            clear S5
            go_wp2_with fail
            go_roundw
            case rel => exact ⟨_, aY, cY, rfl, hl2, hA2, S6⟩
            case measure => have := hlen.out; simp only [lenOf]; omega
          · have S6 := Lib.hid (seCs_sp S7.out hB.out hge.out)
            have hl2 : ds.length ≤ 40 := by omega
            clear S7 hB
            go_wp2_with fail
            exact bodyPost_ret (v := .tuple #[.int .i64 n, .slice B ds.length cap, .int .i64 k]) (by simp [results, Try.results10, go_sem]) rfl ⟨n, k, ds, B, cap, rfl, hn, hk, hl2, hAll.out, S6.out⟩
      · have u0 : (u == 0) = false := by simp; omega
        have u1 : (u == 1) = false := by simp; omega
        have S6 := Lib.hid (seCs_sp S5.out hB.out hge.out)
        have hl2 : es.length ≤ 40 := by omega
        clear S5 hB
        go_wp2_with fail
        exact bodyPost_ret (v := .tuple #[.int .i64 n, .slice B es.length cap, .int .i64 k]) (by simp [results, Try.results10, go_sem]) rfl ⟨n, k, es, B, cap, rfl, hn, hk, hl2, hAll.out, S6.out⟩
end Go.Proofs.Ytnjdmakbdhobgaa

/- Contracts: the bits of a total assignment, in the program; numbers held, in the laws. -/
namespace Go.Proofs.Ytnjdmakbdhobgaa
open Go.RowKit

theorem or_natS (a b : Nat) (ha : a < 2 ^ 62) (hb : b < 2 ^ 62) : bits .or .i64 (a : Int) (b : Int) = ((a ||| b : Nat) : Int) := by
  have h := bits_nat .i64 62 (by decide) (fun n h0 h1 => by rw [IntKind.wrap_i64]; have : (2 : Int) ^ 62 = 4611686018427387904 := by decide
                                                            omega) a b ha hb
  exact h.2
theorem modS_next (b k : Nat) : b % 2 ^ (k + 1) = if b.testBit k then (b % 2 ^ k) ||| 2 ^ k else b % 2 ^ k := by
  rw [Nat.mod_pow_succ, Nat.testBit_eq_decide_div_mod_eq]
  have h : b % 2 ^ k < 2 ^ k := Nat.mod_lt _ (Nat.two_pow_pos k)
  have h3 : b / 2 ^ k % 2 < 2 := Nat.mod_lt _ (by decide)
  by_cases h1 : b / 2 ^ k % 2 = 1
  · rw [h1, decide_eq_true rfl, if_pos rfl, Nat.mul_one]
    have h2 := Nat.two_pow_add_eq_or_of_lt h 1
    rw [Nat.mul_one] at h2
    rw [Nat.or_comm, ← h2, Nat.add_comm]
  · have h4 : b / 2 ^ k % 2 = 0 := by omega
    rw [h4]
    simp

/- left out: the seat has no impl.bitsOf -/

/- left out: the seat has no impl.BitsOfTotal -/

/- left out: the seat has no laws.vHas -/
end Go.Proofs.Ytnjdmakbdhobgaa

/- Contracts: numbers of variables and literals that are drawn, up to thirteen. -/
namespace Go.Proofs.Ytnjdmakbdhobgaa
open Go.RowKit

/- left out: the seat has no (*loop.example/g01080/spec.l1Cur).vars6 -/

theorem lit_three13 {w1 : World} {vars : Int} {g A cl cc : Nat} {ca : Option Addr} (h : CurIs A g ca cl cc w1) (hv : -1 ≤ vars ∧ vars ≤ 13) (hA : A ≤ 80000000) :
    Calls Try.prog 14 #[.pointer (some ⟨g, 0, none⟩), .slice (some ⟨w1.heap.size, 0, none⟩) 3 3] (w1.alloc (.cells #[.int .i64 0, .int .i64 (vars + 1), .int .i64 (-vars - 1)] 3)) (CurPost (IntIn (-14) 14) (A + 2) g ca cl cc (w1.alloc (.cells #[.int .i64 0, .int .i64 (vars + 1), .int .i64 (-vars - 1)] 3))) := by
  have hg := h.lt
  refine cur_among (-14) 14 w1.heap.size 0 3 3 A g ca cl cc _ (h.grow (bal (bb _) _)) (by omega) (by decide) (by decide) (ints_new rfl fun j hj => ?_) (by omega)
  match j, hj with
  | 0, _ => exact ⟨_, rfl, by decide, by decide⟩
  | 1, _ => exact ⟨_, rfl, by omega, by omega⟩
  | 2, _ => exact ⟨_, rfl, by omega, by omega⟩

/- left out: the seat has no (*loop.example/g01080/spec.l1Cur).lit -/

theorem among_four {w1 : World} {vars : Int} {g A cl cc : Nat} {ca : Option Addr} (h : CurIs A g ca cl cc w1) (hv : -1 ≤ vars ∧ vars ≤ 13) (hA : A ≤ 80000000) :
    Calls Try.prog 14 #[.pointer (some ⟨g, 0, none⟩), .slice (some ⟨w1.heap.size, 0, none⟩) 4 4] (w1.alloc (.cells #[.int .i64 0, .int .i64 (vars + 1), .int .i64 (-vars - 1), .int .i64 (-9223372036854775808)] 3)) (CurPost (IntIn (-9223372036854775808) 14) (A + 2) g ca cl cc (w1.alloc (.cells #[.int .i64 0, .int .i64 (vars + 1), .int .i64 (-vars - 1), .int .i64 (-9223372036854775808)] 3))) := by
  have hg := h.lt
  refine cur_among (-9223372036854775808) 14 w1.heap.size 0 4 4 A g ca cl cc _ (h.grow (bal (bb _) _)) (by omega) (by decide) (by decide) (ints_new rfl fun j hj => ?_) (by omega)
  match j, hj with
  | 0, _ => exact ⟨_, rfl, by decide, by decide⟩
  | 1, _ => exact ⟨_, rfl, by omega, by omega⟩
  | 2, _ => exact ⟨_, rfl, by omega, by omega⟩
  | 3, _ => exact ⟨_, rfl, by decide, by decide⟩
def AllI (c : List Int) : Prop := ∀ x ∈ c, I64 x
theorem rowPost_of {n : Nat} {R : List Int → Prop} {A A0 g : Nat} {ca : Option Addr} {cl cc : Nat} {w w' : World} {ps : List Asn} {i : Nat} {B : Option Addr} {cap : Nat} {c : List Int} (h : CS w g ca cl cc A0 w' ps)
    (hi : ps[i]? = some (Own 3 1 (.slice B c.length cap) c.length (c.map (.int .i64)))) (hl : c.length ≤ n) (hR : R c) (hA : A0 ≤ A) : RowPost n R A g ca cl cc w (.returned (.slice B c.length cap)) w' :=
  ⟨_, c, rfl, h.owns_end hi, hl, hR, h.cur.mono hA, h.chg⟩

/- left out: the seat has no (*loop.example/g01080/spec.l1Cur).anyClause -/
end Go.Proofs.Ytnjdmakbdhobgaa

/- Plain facts: decimals, checksums, sealed strings, splitting. No program in sight. -/
namespace Go.Proofs.Ytnjdmakbdhobgaa

theorem decDigits_big {u : Nat} (h : ¬ u < 10) : Lib.decDigits u = Lib.decDigits (u / 10) ++ [UInt8.ofNat (48 + u % 10)] := by rw [Lib.decDigits, dif_neg h]
theorem itoa_nat (u : Nat) : Lib.itoa u = Lib.decDigits u := by simp [Lib.itoa, Int.not_lt.2 (Int.natCast_nonneg u)]
theorem itoa_neg (u : Nat) (h : 0 < u) : Lib.itoa (-(u : Int)) = 45 :: Lib.decDigits u := by
  rw [Lib.itoa, if_pos (by omega)]; congr 2; omega
theorem digit_at : ∀ k : Nat, k < 10 → (ByteArray.mk #[48, 49, 50, 51, 52, 53, 54, 55, 56, 57]).extract k (k + 1) = ms [UInt8.ofNat (48 + k)] := by
  intro k hk
  apply bl_inj
  rw [bl_extract, bl_ms]
  match k, hk with
  | 0, _ => rfl
  | 1, _ => rfl
  | 2, _ => rfl
  | 3, _ => rfl
  | 4, _ => rfl
  | 5, _ => rfl
  | 6, _ => rfl
  | 7, _ => rfl
  | 8, _ => rfl
  | 9, _ => rfl
theorem decDigits_ne (u : Nat) : Lib.decDigits u ≠ [] := by
  by_cases h : u < 10
  · rw [Lib.decDigits, dif_pos h]; simp
  · rw [decDigits_big h]; simp
theorem decDigits_len : ∀ (k u : Nat), u < 10 ^ (k + 1) → (Lib.decDigits u).length ≤ k + 1
  | 0, u, h => by rw [Lib.decDigits, dif_pos (by simpa using h)]; simp
  | k + 1, u, h => by
    by_cases h1 : u < 10
    · rw [Lib.decDigits, dif_pos h1]; simp
    · rw [decDigits_big h1, List.length_append]
      have := decDigits_len k (u / 10) (by rw [Nat.pow_succ] at h; omega)
      simp; omega
theorem decDigits_digit : ∀ (n u : Nat), u ≤ n → ∀ c ∈ Lib.decDigits u, 48 ≤ c.toNat ∧ c.toNat ≤ 57
  | n, u, hn => by
    intro c hc
    by_cases h1 : u < 10
    · rw [Lib.decDigits, dif_pos h1] at hc
      simp at hc; subst hc
      simp; omega
    · rw [decDigits_big h1] at hc
      rcases List.mem_append.1 hc with hc | hc
      · cases n with
        | zero => omega
        | succ n => exact decDigits_digit n (u / 10) (by omega) c hc
      · simp at hc; subst hc
        simp; omega
termination_by n => n

/-- The checksum. -/
def sumB (l : List UInt8) : Int := l.foldl (fun h c => (41 * h + c.toNat + 1) % 999979) 7
theorem sumB_snoc (l : List UInt8) (c : UInt8) : sumB (l ++ [c]) = (41 * sumB l + c.toNat + 1) % 999979 := by simp [sumB]
theorem sumB_nil : sumB [] = 7 := rfl
theorem sumB_range (l : List UInt8) : 0 ≤ sumB l ∧ sumB l < 999979 := by
  rcases List.eq_nil_or_concat l with rfl | ⟨l', c, rfl⟩
  · exact ⟨by decide, by decide⟩
  · rw [List.concat_eq_append, sumB_snoc]; omega
/-- The sealed string. -/
def sealB (l : List UInt8) : List UInt8 := l ++ 35 :: Lib.itoa (sumB l)
theorem itoa_len {n : Int} (h0 : 0 ≤ n) (h : n < 1000000) : (Lib.itoa n).length ≤ 6 := by
  obtain ⟨u, rfl⟩ := Int.eq_ofNat_of_zero_le h0
  rw [itoa_nat]
  exact decDigits_len 5 u (by omega)
theorem sealB_length (l : List UInt8) : (sealB l).length ≤ l.length + 7 := by
  have := sumB_range l
  have := itoa_len this.1 (by omega)
  simp [sealB]; omega
end Go.Proofs.Ytnjdmakbdhobgaa

/- Contract: the decimal of a number, in the reference. -/
namespace Go.Proofs.Ytnjdmakbdhobgaa
open Go.RowKit

theorem ret_str {s t : ByteArray} (h : s = t) : Ending.returned (.string s) = .returned (.string t) := by rw [h]

/-- One decimal digit. -/
def dgB (n : Int) : List UInt8 := [UInt8.ofNat (48 + n.toNat)]
theorem dgB_length (n : Int) : (dgB n).length = 1 := rfl

theorem digit_int (n : Int) (h0 : 0 ≤ n) (h : n < 10) : (ByteArray.mk #[48, 49, 50, 51, 52, 53, 54, 55, 56, 57]).extract n.toNat (n + 1).toNat = ms (dgB n) := by
  unfold dgB
  rw [show (n + 1).toNat = n.toNat + 1 by omega]
  exact digit_at _ (by omega)

/- left out: the seat has no spec.l1Num -/

/- left out: the seat has no spec.l1Num -/

/- left out: the seat has no spec.l1Num -/
end Go.Proofs.Ytnjdmakbdhobgaa

/- Contracts, weak ones: splitting and reading texts in the reference, as the draws need it. -/
namespace Go.Proofs.Ytnjdmakbdhobgaa
open Go.RowKit

theorem infoStrT : (Try.prog.info? 9).map (fun i => (i.zero, i.size, i.bytes)) = some (some (.string ByteArray.empty), 1, 16) := by kernel_rfl
theorem ext_le (s : ByteArray) (a b : Nat) : (s.extract a b).size ≤ s.size := by
  rw [← bl_length, bl_extract, List.length_take, List.length_drop, bl_length]; omega
theorem itoa_short {z : Int} (h0 : -1000000 ≤ z) (h1 : z ≤ 1000000) : (Lib.itoa z).length ≤ 14 := by
  rw [Lib.itoa]
  split
  · have := decDigits_len 12 z.natAbs (by omega)
    simp only [List.length_cons]; omega
  · have := decDigits_len 12 z.toNat (by omega)
    omega
/-- Some strings, none longer than a bound. -/
def StrsLe (n : Nat) (ps : List ByteArray) : Prop := ∀ p ∈ ps, p.size ≤ n

/- left out: the seat has no spec.l1Split -/
end Go.Proofs.Ytnjdmakbdhobgaa

/- Contracts, weak ones: the number of a text, the text of a clause, in the reference. -/
namespace Go.Proofs.Ytnjdmakbdhobgaa
open Go.RowKit

/-- A number and whether it was one. -/
def ReadW (e : Ending) : Prop := ∃ (z : Int) (q : Bool), -1000000 ≤ z ∧ z ≤ 1000000 ∧ e = .returned (.tuple #[.int .i64 z, .bool q])
/- left out: the seat has no spec.l1Read -/

/- left out: the seat has no spec.l2Text -/
end Go.Proofs.Ytnjdmakbdhobgaa

/- Contract, a weak one: a clause read from a text, in the reference. -/
namespace Go.Proofs.Ytnjdmakbdhobgaa
open Go.RowKit

theorem strs_own {w : World} {B : Nat} {e : TypeId} {A : Option Addr} {c : Nat} {ps : List ByteArray} (h : w.ownsRow B e 1 (.slice A ps.length c) ps.length (ps.map .string)) {j : Nat} (hj : j < ps.length) : ∃ b off, A = some ⟨b, off, none⟩ ∧ w.cell? ⟨b, off + j, none⟩ = some (.string ps[j]) := by
  obtain ⟨g, cap, cur, e1, _, hh, _, _, _, ht⟩ := own_block h (by omega)
  simp only [Value.slice.injEq] at e1
  obtain ⟨rfl, -, rfl⟩ := e1
  refine ⟨g, 0, rfl, ?_⟩
  rw [Nat.mul_one] at ht
  rw [Nat.zero_add, hown_cell hh ht hj]
  simp [hj]
theorem Within.snoc {m : Int} {c : List Int} {x : Int} (h : Within m c) (h0 : -m ≤ x) (h1 : x ≤ m) : Within m (c ++ [x]) := fun y hy => by
  rcases List.mem_append.1 hy with hy | hy
  · exact h y hy
  · obtain rfl : y = x := by simpa using hy
    exact ⟨h0, h1⟩
/-- A clause and whether it is one. -/
def ParseW (vars : Int) (w : World) (e : Ending) (w' : World) : Prop := ∃ (c : List Int) (B : Option Addr) (k : Nat) (q : Bool), e = .returned (.tuple #[.slice B c.length k, .bool q]) ∧ Within 1000000 c ∧ c.length ≤ 13 ∧ (q = true → clauseB vars c = true) ∧ Sp w w' [Own 3 1 (.slice B c.length k) c.length (c.map (.int .i64))]

/- left out: the seat has no spec.l2Parse -/
end Go.Proofs.Ytnjdmakbdhobgaa

/- Contract, a weak one: the text of a Cnf, in the reference. -/
namespace Go.Proofs.Ytnjdmakbdhobgaa
open Go.RowKit

/-- Clauses that are short and small. -/
def SmallC (xss : List (List Int)) : Prop := ∀ c ∈ xss, Within 1000000 c ∧ c.length ≤ 13

/- left out: the seat has no spec.l2TextOf -/
end Go.Proofs.Ytnjdmakbdhobgaa

/- Contracts, weak ones: a Cnf read from a text, in the reference. -/
namespace Go.Proofs.Ytnjdmakbdhobgaa
open Go.RowKit

theorem sep_front : ∀ {qs ps : List Asn} {w : World} {F : List Nat}, sep (qs ++ ps) w F → ∃ F1, sep qs w F1 ∧ ∀ b ∈ F1, b ∈ F
  | [], ps, w, F, _ => ⟨[], rfl, by simp⟩
  | q :: qs, ps, w, F, h => by
    obtain ⟨F1, F2, rfl, h1, h2, h3⟩ := h
    obtain ⟨F3, h4, h5⟩ := sep_front h3
    refine ⟨F1 ++ F3, ⟨F1, F3, rfl, fun b hb hb2 => h1 b hb (h5 b hb2), h2, h4⟩, fun b hb => ?_⟩
    rcases List.mem_append.1 hb with h | h
    · exact List.mem_append.2 (.inl h)
    · exact List.mem_append.2 (.inr (h5 b h))
/-- The parts behind are let go. -/
theorem Sp.front {w0 w : World} {ps qs : List Asn} (h : Sp w0 w (qs ++ ps)) : Sp w0 w qs := by
  obtain ⟨h1, G, h2, h3⟩ := h
  obtain ⟨F, h4, h5⟩ := sep_front h2
  exact ⟨h1, F, h4, fun b hb => h3 b (h5 b hb)⟩
/-- A small Cnf of its own, and whether there is one. -/
def CnfW (w : World) (e : Ending) (w' : World) : Prop := ∃ (vars : Int) (B : Option Addr) (cap : Nat) (cs : List Value) (xss : List (List Int)) (q : Bool), e = .returned (.tuple #[.agg #[.int .i64 vars, .slice B xss.length cap], .bool q]) ∧ 0 ≤ vars ∧ vars ≤ 12 ∧ xss.length ≤ 60 ∧ SmallC xss ∧
  Sp w w' [Rows Ty.int 33 (.slice B xss.length cap) cs xss]
theorem cnfW_no {w w' : World} (hb : Below w.heap.size w w') : CnfW w (.returned (.tuple #[.agg #[.int .i64 0, .slice none 0 0], .bool false])) w' :=
  ⟨0, none, 0, [], [], false, rfl, by decide, by decide, by simp, (fun c hc => by simp at hc), (Sp.of_below hb).rows_nil _ _⟩

/- left out: the seat has no spec.ParseCnf -/
end Go.Proofs.Ytnjdmakbdhobgaa

/- Contract, a weak one: a Cnf with its variables renamed, in the reference. -/
namespace Go.Proofs.Ytnjdmakbdhobgaa
open Go.RowKit

theorem clause_len {vars : Int} {c : List Int} (h : clauseB vars c = true) : c.length ≤ 12 := by
  have hp := clause_parts h
  exact rising_len (m := 12) (k := 1) (clause_rising h) (fun l hl => by have := hp.2.1 l hl; omega)

theorem absV_of (l : Int) (h : -13 ≤ l ∧ l ≤ 13) : absV l = (l.natAbs : Int) := by
  unfold absV negV
  split
  · rw [IntWalk.wrap64_in _ (by omega)]; omega
  · omega

/- left out: the seat has no spec.RenameCnf -/
end Go.Proofs.Ytnjdmakbdhobgaa

/- Contracts: numbers of variables that are drawn, mostly up to five. -/
namespace Go.Proofs.Ytnjdmakbdhobgaa
open Go.RowKit

/- left out: the seat has no (*loop.example/g01080/spec.l1Cur).vars2 -/
end Go.Proofs.Ytnjdmakbdhobgaa

/- Joined parts beside a cursor; a known Cnf, weakly, and the texts without models. -/
namespace Go.Proofs.Ytnjdmakbdhobgaa
open Go.RowKit

section
variable {w0 w w' : World} {g cl cc A A' : Nat} {ca : Option Addr} {ps qs : List Asn}
theorem CS.comp (h : CS w0 g ca cl cc A w ps) (k : CS w g ca cl cc A' w' qs) : CS w0 g ca cl cc A' w' (qs ++ ps) := by
  have hg := h.glt
  have hsz := h.chg.size
  obtain ⟨h0, h1, h2, F, h3, h4⟩ := h
  obtain ⟨k0, k1, k2, G, k3, k4⟩ := k
  have hk := sep_keep h3 fun b hm => k2.block b (sep_lt h3 b hm) fun hb => by
    obtain rfl : b = g := by simpa using hb
    have := h4 b hm; omega
  refine ⟨h0, k1, h2.trans k2, G ++ F, sep_append k3 hk (fun b hb hb2 => ?_), fun b hb => ?_⟩
  · have := k4 b hb; have := sep_lt h3 b hb2; omega
  · rcases List.mem_append.1 hb with hb | hb
    · have := k4 b hb; omega
    · exact h4 b hb
theorem CS.front (h : CS w0 g ca cl cc A w (qs ++ ps)) : CS w0 g ca cl cc A w qs := by
  obtain ⟨h0, h1, h2, F, h3, h4⟩ := h
  obtain ⟨G, h5, h6⟩ := sep_front h3
  exact ⟨h0, h1, h2, G, h5, fun b hb => h4 b (h6 b hb)⟩
theorem row_cs {v : Value} {c : List Int} (h : CurIs A g ca cl cc w) (hi : CurIs A' g ca cl cc w') (hc : Chg [g] w w') (ho : w'.ownsRow w.heap.size 3 1 v c.length (c.map (.int .i64))) :
    CS w g ca cl cc A' w' [Own 3 1 v c.length (c.map (.int .i64))] :=
  ⟨⟨A, h⟩, hi, hc, _, ⟨v.ownBlock.toList, [], by rw [List.append_nil], by simp, ⟨rfl, owns_zero ho⟩, rfl⟩, fun b hb => owns_ge ho b (by simpa using hb)⟩
end
def TextLe (n : Nat) (s : ByteArray) : Prop := s.size ≤ n
theorem text_le {n : Nat} {s : ByteArray} (h : decide (s.size ≤ n) = true) : TextLe n s := show s.size ≤ n from of_decide_eq_true h
theorem strsR_new {R : ByteArray → Prop} {W : World} {cs : Array Value} {t : TypeId} {b n : Nat} (hb : b = W.heap.size) (h : ∀ j, j < n → ∃ s, cs[j]? = some (.string s) ∧ R s) : StrsR R (W.alloc (.cells cs t)) b 0 n := fun j hj => by
  obtain ⟨s, h1, h2⟩ := h j hj
  subst hb
  refine ⟨s, h2, ?_⟩
  rw [Nat.zero_add]
  exact (cell_of_row _ _ _ _ _ _ (heap_alloc_new W _)).trans h1

/-- A small Cnf of its own. -/
def CnfV (w : World) (e : Ending) (w' : World) : Prop := ∃ (vars : Int) (B : Option Addr) (cap : Nat) (cs : List Value) (xss : List (List Int)), e = .returned (.agg #[.int .i64 vars, .slice B xss.length cap]) ∧ 0 ≤ vars ∧ vars ≤ 12 ∧ xss.length ≤ 60 ∧ SmallC xss ∧
  Sp w w' [Rows Ty.int 33 (.slice B xss.length cap) cs xss]

/- left out: the seat has no spec.l2Known -/

/- left out: the seat has no spec.l2Hard -/
end Go.Proofs.Ytnjdmakbdhobgaa

/- Contract: a drawn Cnf without models. -/
namespace Go.Proofs.Ytnjdmakbdhobgaa
open Go.RowKit

/-- Rows of small clauses. -/
def SmallR (n : Nat) (xss : List (List Int)) : Prop := ∀ c ∈ xss, (∀ x ∈ c, I64 x) ∧ c.length ≤ n
theorem SmallC.r {xss : List (List Int)} (h : SmallC xss) : SmallR 13 xss := fun c hc => ⟨(h c hc).1.i64 (by decide), (h c hc).2⟩
/-- A drawn Cnf. -/
def CnfPost (A g : Nat) (ca : Option Addr) (cl cc : Nat) (w : World) (e : Ending) (w' : World) : Prop := ∃ (vars : Int) (B : Option Addr) (cap : Nat) (cs : List Value) (xss : List (List Int)), e = .returned (.agg #[.int .i64 vars, .slice B xss.length cap]) ∧ -1 ≤ vars ∧ vars ≤ 13 ∧ xss.length ≤ 62 ∧ SmallR 13 xss ∧
  CS w g ca cl cc A w' [Rows Ty.int 33 (.slice B xss.length cap) cs xss]

/- left out: the seat has no (*loop.example/g01080/spec.l1Cur).hard -/
end Go.Proofs.Ytnjdmakbdhobgaa

/- Rows of rows that grow by several rows; rows of one number. -/
namespace Go.Proofs.Ytnjdmakbdhobgaa
open Go.RowKit

/-- Rows that wait to be appended. -/
def Pend {α : Type} (T : Ty α) (us : List Value) (yss : List (List α)) : Asn where
  p w F := F.Nodup ∧ (Ty.slice T).all true w us yss F
  lt h := Ty.all_lt h.2
  keep h hk := ⟨h.1, Ty.all_keep h.2 hk⟩
section
variable {w0 w w' w1 : World} {g cl cc A : Nat} {ca : Option Addr} {ps : List Asn} {e : TypeId} {α : Type} {T : Ty α} {v v' u1 u2 : Value} {cs us : List Value} {xss yss : List (List α)} {ys1 ys2 : List α}
theorem CS.pend (h : CS w0 g ca cl cc A w (Row T u1 ys1 :: Row T u2 ys2 :: ps)) : CS w0 g ca cl cc A w (Pend T [u1, u2] [ys1, ys2] :: ps) := by
  obtain ⟨h0, h1, h2, F, ⟨F1, F2, rfl, hd, ⟨hr, hn⟩, ⟨F3, F4, rfl, hd', ⟨hr', hn'⟩, h5⟩⟩, h3⟩ := h
  refine ⟨h0, h1, h2, (F1 ++ F3) ++ F4, ⟨F1 ++ F3, F4, rfl, ?_, ⟨?_, Ty.all_append (cs := [u1]) (xs := [ys1]) (Ty.all_one ⟨u1, rfl, hr⟩) (Ty.all_one ⟨u2, rfl, hr'⟩)⟩, h5⟩, ?_⟩
  · intro b hm hm4
    rcases List.mem_append.1 hm with hm | hm
    · exact hd b hm (List.mem_append.2 (.inr hm4))
    · exact hd' b hm hm4
  · exact List.nodup_append.2 ⟨hn, hn', fun x hx y hy e => hd x hx (List.mem_append.2 (.inl (e ▸ hy)))⟩
  · intro b hm
    exact h3 b (by simpa [List.append_assoc] using hm)
theorem CS.rows_append (h : CS w0 g ca cl cc A w (Pend T us yss :: Rows T e v cs xss :: ps)) (hb : Below w.heap.size w w1) (ho : w'.ownsRow 0 e 1 v' (xss.length + yss.length) (cs ++ us)) (hg : w1.grownBy w' v.ownBlock)
    (hat : v'.ownBlock = v.ownBlock ∨ v'.ownBlock = some w1.heap.size) : CS w0 g ca cl cc A w' (Rows T e v' (cs ++ us) (xss ++ yss) :: ps) := by
  have hsz := h.chg.size
  obtain ⟨⟨A0, h0'⟩, hcur, h1, F, ⟨F1, F2, rfl, hd, ⟨hn, hr⟩, ⟨F3, F4, rfl, hd', ⟨G, rfl, hn', hall, hown⟩, h5⟩⟩, h3⟩ := h
  have hr1 := Ty.all_keep hr fun b hm => hb.block b (Ty.all_lt hr b hm)
  have hall1 := Ty.all_keep hall fun b hm => hb.block b (Ty.all_lt hall b hm)
  have h51 := sep_keep h5 fun b hm => hb.block b (sep_lt h5 b hm)
  have hkeep : ∀ b, b < w.heap.size → (∀ g, v.ownBlock = some g → b ≠ g) → w'.heap[b]? = w1.heap[b]? := fun b hlt hne => hg.block b (Nat.lt_of_lt_of_le hlt hb.size) (fun e => hne b e.symm rfl)
  have hr2 := Ty.all_keep hr1 fun b hm => hkeep b (Ty.all_lt hr b hm) fun g hg' e => hd b hm (by simp [hg', e])
  have hnG : ∀ b ∈ G, ∀ g, v.ownBlock = some g → b ≠ g := fun b hm g hg' e => by
    rw [List.nodup_append] at hn'
    exact hn'.2.2 g (by simp [hg']) b hm e.symm
  have hall2 := Ty.all_keep hall1 fun b hm => hkeep b (Ty.all_lt hall b hm) (hnG b hm)
  have h52 := sep_keep h51 fun b hm => hkeep b (sep_lt h5 b hm) fun g hg' e => hd' b (by simp [hg', e]) hm
  have hlv : ∀ b ∈ v'.ownBlock.toList, b ∈ v.ownBlock.toList ∨ b = w1.heap.size := fun b hm => by
    rcases hat with h | h
    · left; rwa [h] at hm
    · right; rw [h] at hm; simpa using hm
  have hs := hb.size
  have hold : ∀ k, k < w0.heap.size → w'.heap[k]? = w.heap[k]? := fun k hk => (hkeep k (by omega) fun g hg' e => by have := h3 g (by simp [hg']); omega).trans (hb.block k (by omega))
  have hchg : Chg [g] w0 w' := ⟨hg.os.trans (hb.os.trans h1.os), hg.tape.trans (hb.tape.trans h1.tape), hg.output.trans (hb.output.trans h1.output), by have := hg.size; omega, fun k hk hn => (hold k hk).trans (h1.block k hk hn)⟩
  refine ⟨⟨A0, h0'⟩, h0'.stay hcur hold, hchg, (v'.ownBlock.toList ++ (G ++ F1)) ++ F4, ⟨_, F4, rfl, ?_, ⟨G ++ F1, rfl, ?_, ?_, by simpa using ho⟩, h52⟩, ?_⟩
  · intro b hm hm4
    rcases List.mem_append.1 hm with hm | hm
    · rcases hlv b hm with h | h
      · exact hd' b (List.mem_append.2 (.inl h)) hm4
      · have := sep_lt h5 b hm4; omega
    · rcases List.mem_append.1 hm with hm | hm
      · exact hd' b (List.mem_append.2 (.inr hm)) hm4
      · exact hd b hm (List.mem_append.2 (.inr hm4))
  · refine List.nodup_append.2 ⟨by cases v'.ownBlock <;> simp, List.nodup_append.2 ⟨(List.nodup_append.1 hn').2.1, hn, fun x hx y hy e => hd y hy (by simp [← e, hx])⟩, fun x hx y hy e => ?_⟩
    subst e
    rcases hlv x hx with h | h
    · rcases List.mem_append.1 hy with hy | hy
      · exact (List.nodup_append.1 hn').2.2 x h x hy rfl
      · exact hd x hy (List.mem_append.2 (.inl (List.mem_append.2 (.inl h))))
    · rcases List.mem_append.1 hy with hy | hy
      · have := Ty.all_lt hall x hy; omega
      · have := Ty.all_lt hr x hy; omega
  · exact Ty.all_append hall2 hr2
  · intro b hm
    rcases List.mem_append.1 hm with hm | hm
    · rcases List.mem_append.1 hm with hm | hm
      · rcases hlv b hm with h | h
        · exact h3 b (by simp at h ⊢; simp [h])
        · omega
      · rcases List.mem_append.1 hm with hm | hm
        · exact h3 b (by simp [hm])
        · exact h3 b (by simp [hm])
    · exact h3 b (by simp [hm])
theorem CS.own_one (h : CS w0 g ca cl cc A w ps) (x : Value) (e : TypeId) : CS w0 g ca cl cc A (w.alloc (.cells #[x] e)) (Own e 1 (.slice (some ⟨w.heap.size, 0, none⟩) 1 1) 1 [x] :: ps) :=
  h.own_new (bal (bb _) _) ⟨by simp, .inr ⟨w.heap.size, 1, #[x], rfl, Nat.zero_le _, heap_alloc_new w _, Nat.le_refl _, by decide, by simp, by simp⟩⟩ (fun g hg => by
    have : w.heap.size = g := by simpa [Value.ownBlock] using hg
    omega)
end
theorem Src.two {w : World} {b : Nat} {x y : Value} (h : w.cell? ⟨b, 0, none⟩ = some x) (h2 : w.cell? ⟨b, 1, none⟩ = some y) : Src w (some ⟨b, 0, none⟩) 2 1 [x, y] := .inr ⟨_, rfl, rfl, fun j u hj => by
    match j, hj with
    | 0, hj => simp at hj; subst hj; rw [add_none]; exact h
    | 1, hj => simp at hj; subst hj; rw [add_none]; exact h2⟩
set_option maxHeartbeats 400000 in
theorem bs_five (a : Act) (w : World) (K : Act → World → Prop) (Q : Exit → Act → World → Prop) (p : String) (h : K (a.put (some 34) (.slice (some ⟨w.heap.size, 0, none⟩) 5 5)) (w.alloc (.cells #[.int .i64 (-1), .int .i64 13, .int .i64 12, .int .i64 0, .int .i64 1] 3))) :
    Oper.wp Try.prog {dst := some 34, op := Op.buildSlice 33 5 #[(0, .const (.int .i64 (-1))), (1, .const (.int .i64 13)), (2, .const (.int .i64 12)), (3, .const (.int .i64 0)), (4, .const (.int .i64 1))], type := 33, pos := p, after := #[], guard := none} a w K Q := by
  go_simp
  exact h
/-- The length of the row that lies in a block's second cell. -/
def lenAt1 (w : World) (b : Nat) : Nat := match w.cell? ⟨b, 1, none⟩ with | some (.slice _ n _) => n | _ => 0
theorem lenAt1_of {w : World} {b n c : Nat} {B : Option Addr} (h : w.cell? ⟨b, 1, none⟩ = some (.slice B n c)) : lenAt1 w b = n := by simp [lenAt1, h]
end Go.Proofs.Ytnjdmakbdhobgaa

/- Contract: a drawn Cnf. -/
namespace Go.Proofs.Ytnjdmakbdhobgaa
open Go.RowKit

/- left out: the seat has no (*loop.example/g01080/spec.l1Cur).cnf -/
end Go.Proofs.Ytnjdmakbdhobgaa

/- Contracts: drawn Cnfs as inputs of laws. -/
namespace Go.Proofs.Ytnjdmakbdhobgaa
open Go.RowKit

section
variable {w0 w w' : World} {ps qs : List Asn} {A A' g cl cc : Nat} {ca : Option Addr}
theorem Sp.cur_laid (h : Sp w0 w ps) (ca : Option Addr) (cl cc : Nat) : Sp w0 (w.alloc (.cells #[.slice ca cl cc, .int .i64 0, .int .u64 0] 43)) (CurA 0 w.heap.size ca cl cc :: ps) :=
  h.new (bal (bb w) _) (F := [w.heap.size]) ⟨rfl, 0, 0, heap_alloc_new w _, Nat.le_refl 0, Int.le_refl 0, by omega⟩ (by simp)
theorem Sp.cs_call (h : Sp w0 w (CurA A g ca cl cc :: ps)) (k : CS w g ca cl cc A' w' qs) (hc : CodeOk w0 ca cl) (hs : cl ≤ 65536) : Sp w0 w' (qs ++ CurA A' g ca cl cc :: ps) := by
  have hb := ((h.cur (A' := A') (i := 0) rfl hc hs).2 w' k.cur k.chg).below
  obtain ⟨h1, F, ⟨F1, F2, rfl, hd, ⟨rfl, -⟩, h5⟩, h3⟩ := h
  have hg : g < w.heap.size := by
    obtain ⟨A0, h0⟩ := k.1
    exact h0.lt
  obtain ⟨k0, k1, k2, G, k3, k4⟩ := k
  have hk := sep_keep h5 fun b hm => k2.block b (sep_lt h5 b hm) fun hb => by
    obtain rfl : b = g := by simpa using hb
    exact hd b (by simp) hm
  refine ⟨hb, G ++ ([g] ++ F2), sep_append k3 ⟨[g], F2, rfl, hd, ⟨rfl, k1.ok⟩, hk⟩ (fun b hb hb2 => ?_), fun b hb => ?_⟩
  · have := k4 b hb
    rcases List.mem_append.1 hb2 with h' | h'
    · obtain rfl : b = g := by simpa using h'
      omega
    · have := sep_lt h5 b h'; omega
  · rcases List.mem_append.1 hb with hb | hb
    · have := k4 b hb; have := h1.size; omega
    · exact h3 b hb
end
/-- A drawn Cnf of its own. -/
def CnfD (w : World) (e : Ending) (w' : World) : Prop := ∃ (vars : Int) (B : Option Addr) (cap : Nat) (cs : List Value) (xss : List (List Int)), e = .returned (.agg #[.int .i64 vars, .slice B xss.length cap]) ∧ -1 ≤ vars ∧ vars ≤ 13 ∧ xss.length ≤ 62 ∧ SmallR 13 xss ∧
  Sp w w' [Rows Ty.int 33 (.slice B xss.length cap) cs xss]

/- left out: the seat has no spec.DrawIsCnf -/

/- left out: the seat has no spec.DrawBackboneOf -/
end Go.Proofs.Ytnjdmakbdhobgaa

/- Contracts: drawn assignments, and drawn inputs of laws on assignments. -/
namespace Go.Proofs.Ytnjdmakbdhobgaa
open Go.RowKit

def leastS (a b : Int) : Int := if a < b then a else b
def mostS (a b : Int) : Int := if b < a then a else b
/- left out: the seat has no spec.l1Least -/

/- left out: the seat has no (*loop.example/g01080/spec.l1Cur).assignment -/

/- left out: the seat has no (*loop.example/g01080/spec.l1Cur).anyAssignment -/
end Go.Proofs.Ytnjdmakbdhobgaa

/- Contracts: drawn inputs of laws on assignments. -/
namespace Go.Proofs.Ytnjdmakbdhobgaa
open Go.RowKit

def SetD (w : World) (e : Ending) (w' : World) : Prop := ∃ (vars l : Int) (D : Option Addr) (dc : Nat) (d : List Int), e = .returned (.tuple #[.int .i64 vars, .slice D d.length dc, .int .i64 l]) ∧ -1 ≤ vars ∧ vars ≤ 13 ∧ -14 ≤ l ∧ l ≤ 14 ∧ d.length ≤ 13 ∧ AllI d ∧ Sp w w' [Own 3 1 (.slice D d.length dc) d.length (d.map (.int .i64))]
def MergeD (w : World) (e : Ending) (w' : World) : Prop := ∃ (vars : Int) (D E : Option Addr) (dc ec : Nat) (d f : List Int), e = .returned (.tuple #[.int .i64 vars, .slice D d.length dc, .slice E f.length ec]) ∧ -1 ≤ vars ∧ vars ≤ 13 ∧ d.length ≤ 13 ∧ f.length ≤ 13 ∧ AllI d ∧ AllI f ∧
  Sp w w' [Own 3 1 (.slice D d.length dc) d.length (d.map (.int .i64)), Own 3 1 (.slice E f.length ec) f.length (f.map (.int .i64))]
def TotD (w : World) (e : Ending) (w' : World) : Prop := ∃ (vars x : Int), e = .returned (.tuple #[.int .i64 vars, .int .i64 x]) ∧ -1 ≤ vars ∧ vars ≤ 13 ∧ -1 ≤ x ∧ x ≤ 4096 ∧ Below w.heap.size w w'

/- left out: the seat has no spec.DrawSetLiteral -/

/- left out: the seat has no spec.DrawMergeAssignments -/

/- left out: the seat has no spec.DrawTotalOf -/
end Go.Proofs.Ytnjdmakbdhobgaa

/- Plain facts: what the law of assignments asks. -/
namespace Go.Proofs.Ytnjdmakbdhobgaa
open Go.RowKit

theorem lit_ok {vars l : Int} (hv : 0 ≤ vars ∧ vars ≤ 12) (h0 : l ≠ 0) (h1 : -vars ≤ l) (h2 : l ≤ vars) : litB vars l = true := by
  unfold litB inB
  rw [negV_small (by unfold I64; omega) (by omega)]
  simp only [Bool.and_eq_true, decide_eq_true_eq, bne_iff_ne]
  omega
theorem good_clause {vars : Int} {c : List Int} (hv : 0 ≤ vars ∧ vars ≤ 12) (g : GoodS c) (h : ∀ l ∈ c, -vars ≤ l ∧ l ≤ vars) : clauseB vars c = true := by
  unfold clauseB
  rw [Bool.and_eq_true, inB_true]
  refine ⟨hv, ?_⟩
  unfold cOkTo
  rw [List.all_eq_true]
  intro i hi
  have hi := List.mem_range.1 hi
  unfold cOk
  have e1 : c.getD i 0 = c[i] := by rw [List.getD_eq_getElem?_getD, List.getElem?_eq_getElem hi]; rfl
  rw [Bool.and_eq_true, e1]
  have hm := List.getElem_mem hi
  refine ⟨lit_ok hv (g.mem _ hm).1 (h _ hm).1 (h _ hm).2, ?_⟩
  cases i with
  | zero => rfl
  | succ i =>
    have e2 : c.getD (i + 1 - 1) 0 = c[i] := by rw [Nat.add_sub_cancel, List.getD_eq_getElem?_getD, List.getElem?_eq_getElem (by omega)]; rfl
    rw [e2]
    have := List.pairwise_iff_getElem.1 g.asc i (i + 1) (by omega) hi (by omega)
    unfold AscS at this
    rw [decide_eq_true this]
    simp
theorem tot_good {n b : Nat} (hn : n ≤ 12) : GoodS (totB n b) := by
  refine ⟨tot_lit hn, ?_⟩
  rw [List.pairwise_iff_getElem]
  intro i j hi hj hij
  have l1 := tot_lit hn _ (List.getElem_mem hi)
  have l2 := tot_lit hn _ (List.getElem_mem hj)
  unfold AscS
  rw [absV_lit l1, absV_lit l2]
  have key : ∀ k (h : k < (totB n b).length), (totB n b)[k].natAbs = k + 1 := fun k h => by
    simp only [totB, List.getElem_map, List.getElem_range]
    unfold totI
    split <;> omega
  rw [key, key]
  omega
theorem tot_clause {n b : Nat} (hn : n ≤ 12) : clauseB n (totB n b) = true := by
  refine good_clause (by omega) (tot_good hn) fun l hl => ?_
  obtain ⟨i, hi, rfl⟩ := List.mem_map.1 hl
  have := List.mem_range.1 hi
  unfold totI
  split <;> omega
theorem joinS_mem {a b c : List Int} (ga : GoodS a) (gb : GoodS b) (h : joinS a b = some c) : GoodS c ∧ ∀ x, x ∈ c ↔ x ∈ a ∨ x ∈ b := by
  rcases joinS_spec ga gb with ⟨h1, -⟩ | ⟨c', h1, h2, h3, -⟩
  · rw [h1] at h; cases h
  · rw [h1] at h
    cases h
    exact ⟨h2, h3⟩
theorem merge_facts {vars : Int} {a b c : List Int} (h : mergeR vars a b = some c) : clauseB vars a = true ∧ clauseB vars b = true ∧ clauseB vars c = true ∧ a.all (hasI c) = true ∧ b.all (hasI c) = true := by
  unfold mergeR at h
  split at h
  · rename_i hq
    rw [Bool.and_eq_true] at hq
    obtain ⟨gc, hm⟩ := joinS_mem (good_s hq.1) (good_s hq.2) h
    have pa := clause_parts hq.1
    have pb := clause_parts hq.2
    refine ⟨hq.1, hq.2, good_clause pa.1 gc fun l hl => ?_, ?_, ?_⟩
    · rcases (hm l).1 hl with h | h
      · exact (pa.2.1 l h).2
      · exact (pb.2.1 l h).2
    · rw [List.all_eq_true]
      exact fun x hx => hasS_iff.2 ((hm x).2 (.inl hx))
    · rw [List.all_eq_true]
      exact fun x hx => hasS_iff.2 ((hm x).2 (.inr hx))
  · cases h
theorem set_facts {vars : Int} {a c : List Int} {l : Int} (h : setR vars a l = some c) : clauseB vars c = true ∧ inB (absV l) 1 vars = true ∧ hasI (withoutB c (absV l)) l = false ∧ hasI c l = true ∧ absV l = if l < 0 then -l else l := by
  unfold setR at h
  split at h
  · rename_i hq
    rw [Bool.and_eq_true] at hq
    cases h
    have pa := clause_parts hq.1
    have hl := lit_small pa.1 hq.2
    have hls : LitS l := by unfold LitS; omega
    refine ⟨good_clause pa.1 (set_good (good_s hq.1) hls) fun x hx => ?_, ?_, ?_, ?_, hls.abs⟩
    · unfold setS at hx
      rcases memS_putB.1 hx with rfl | hx
      · exact hl.2
      · exact (pa.2.1 x (memS_without.1 hx).1).2
    · rw [inB_true, hls.abs]
      split <;> omega
    · rw [hasS_not]
      intro hx
      exact (memS_without.1 hx).2 rfl
    · rw [hasS_iff]
      unfold setS
      exact memS_putB.2 (.inl rfl)
  · cases h
theorem mergeR_len {vars : Int} {a b : List Int} (la : a.length ≤ 13) (lb : b.length ≤ 13) : ((mergeR vars a b).getD []).length ≤ 1000 := by
  cases h : mergeR vars a b with
  | none => simp
  | some c =>
    have := (merge_facts h).2.2.1
    exact (clause_s this).2
theorem setR_len {vars : Int} {a : List Int} {l : Int} : ((setR vars a l).getD []).length ≤ 1000 := by
  cases h : setR vars a l with
  | none => simp
  | some c => exact (clause_s (set_facts h).1).2
end Go.Proofs.Ytnjdmakbdhobgaa

/- Plain facts of FnSeeded, and the contracts of both sides at any arguments. -/
namespace Go.Proofs.Ytnjdmakbdhobgaa
open Go.RowKit

theorem clT_iff {L : List Int} {b : Nat} : clT L b = true ↔ ∃ l ∈ L, litT b l = true := by unfold clT; rw [List.any_eq_true]
theorem litT_pos (b v : Nat) : litT b ((v : Int) + 1) = b.testBit v := by
  unfold litT
  rw [decide_eq_true (by omega : (0 : Int) < (v : Int) + 1), show ((v : Int) + 1).natAbs - 1 = v by omega]; simp
theorem litT_neg (b v : Nat) : litT b (-((v : Int) + 1)) = !b.testBit v := by
  unfold litT
  rw [decide_eq_false (by omega : ¬ (0 : Int) < -((v : Int) + 1)), show (-((v : Int) + 1)).natAbs - 1 = v by omega]; simp
/-- A number of given bits. -/
theorem bits_ex (f : Nat → Bool) : ∀ N : Nat, ∃ b < 2 ^ N, ∀ j < N, b.testBit j = f j
  | 0 => ⟨0, by simp, fun j h => absurd h (by omega)⟩
  | N + 1 => by
    obtain ⟨b, hb, h⟩ := bits_ex f N
    cases hf : f N with
    | false =>
      refine ⟨b, by rw [Nat.pow_succ]; omega, fun j hj => ?_⟩
      rcases Nat.lt_or_ge j N with h1 | h1
      · exact h j h1
      · obtain rfl : j = N := by omega
        rw [hf]; exact Nat.testBit_lt_two_pow hb
    | true =>
      refine ⟨2 ^ N + b, by rw [Nat.pow_succ]; omega, fun j hj => ?_⟩
      rcases Nat.lt_or_ge j N with h1 | h1
      · rw [Nat.testBit_two_pow_add_gt h1]; exact h j h1
      · obtain rfl : j = N := by omega
        rw [hf, Nat.testBit_two_pow_add_eq, Nat.testBit_lt_two_pow hb]; rfl
theorem clT_cpt {L : List Int} {b : Nat} : clT (cptL L) b = clT L b := by
  rw [Bool.eq_iff_iff, clT_iff, clT_iff]
  constructor <;> (rintro ⟨l, hl, h⟩; exact ⟨l, by first | exact cptL_mem.1 hl | exact cptL_mem.2 hl, h⟩)
theorem col_lit (i k c : Nat) : (i : Int) * k + ((c : Int) + 1) = ((i * k + c : Nat) : Int) + 1 := by push_cast; omega
theorem clT_node {k i b : Nat} : clT (colC k i) b = true ↔ ∃ c < k, b.testBit (i * k + c) = true := by
  rw [clT_iff]
  unfold colC
  simp only [List.mem_map, List.mem_range]
  constructor
  · rintro ⟨l, ⟨c, hc, rfl⟩, h⟩
    rw [col_lit, litT_pos] at h
    exact ⟨c, hc, h⟩
  · rintro ⟨c, hc, h⟩
    exact ⟨_, ⟨c, hc, rfl⟩, by rw [col_lit, litT_pos]; exact h⟩
theorem clT_edge {k a c m b : Nat} : clT (colP k (((a : Int) + 1), ((c : Int) + 1)) ((m : Int) + 1)) b = true ↔ (b.testBit (a * k + m) = false ∨ b.testBit (c * k + m) = false) := by
  rw [clT_iff]
  unfold colP
  have e1 : ((a : Int) + 1 - 1) * (k : Int) + ((m : Int) + 1) = ((a * k + m : Nat) : Int) + 1 := by rw [Int.add_sub_cancel]; exact col_lit a k m
  have e2 : ((c : Int) + 1 - 1) * (k : Int) + ((m : Int) + 1) = ((c * k + m : Nat) : Int) + 1 := by rw [Int.add_sub_cancel]; exact col_lit c k m
  dsimp only
  rw [e1, e2]
  simp only [List.mem_cons, List.mem_nil_iff, or_false, exists_eq_or_imp, exists_eq_left, litT_neg, Bool.not_eq_true']
theorem col_all {n k b : Nat} {es : List (Int × Int)} : modT (colL n k es es.length) b = true ↔ (∀ i < n, clT (colC k i) b = true) ∧ ∀ e ∈ es, ∀ m < k, clT (colP k e ((m : Int) + 1)) b = true := by
  unfold modT colL colN colE1
  rw [List.take_length, List.all_append, Bool.and_eq_true, List.all_eq_true, List.all_eq_true]
  simp only [List.mem_map, List.mem_range, List.mem_flatMap]
  constructor
  · rintro ⟨h1, h2⟩
    exact ⟨fun i hi => h1 _ ⟨i, hi, rfl⟩, fun e he m hm => by rw [← clT_cpt]; exact h2 _ ⟨e, he, m, hm, rfl⟩⟩
  · rintro ⟨h1, h2⟩
    refine ⟨?_, ?_⟩
    · rintro _ ⟨i, hi, rfl⟩; exact h1 i hi
    · rintro _ ⟨e, he, m, hm, rfl⟩; rw [clT_cpt]; exact h2 e he m hm
/-- One color more does no harm. -/
theorem sat_more {n k b : Nat} {es : List (Int × Int)} (hes : ∀ e ∈ es, edgeV n e = true) (h : modT (colL n k es es.length) b = true) :
    ∃ b', b' < 2 ^ (n * (k + 1)) ∧ modT (colL n (k + 1) es es.length) b' = true := by
  obtain ⟨h1, h2⟩ := col_all.1 h
  obtain ⟨b', hb, hf⟩ := bits_ex (fun j => decide (j % (k + 1) < k) && b.testBit (j / (k + 1) * k + j % (k + 1))) (n * (k + 1))
  have hbit : ∀ i c, i < n → c ≤ k → b'.testBit (i * (k + 1) + c) = (decide (c < k) && b.testBit (i * k + c)) := fun i c hi hc => by
    have hlt : i * (k + 1) + c < n * (k + 1) := by
      have : (i + 1) * (k + 1) ≤ n * (k + 1) := Nat.mul_le_mul_right _ hi
      rw [Nat.succ_mul] at this
      omega
    rw [hf _ hlt]
    have e1 : (i * (k + 1) + c) % (k + 1) = c := by rw [Nat.mul_comm, Nat.mul_add_mod]; exact Nat.mod_eq_of_lt (by omega)
    have e2 : (i * (k + 1) + c) / (k + 1) = i := by rw [Nat.mul_comm, Nat.mul_add_div (by omega), Nat.div_eq_of_lt (by omega)]; omega
    rw [e1, e2]
  refine ⟨b', hb, col_all.2 ⟨fun i hi => ?_, fun e he m hm => ?_⟩⟩
  · obtain ⟨c, hc, hbc⟩ := clT_node.1 (h1 i hi)
    exact clT_node.2 ⟨c, by omega, by rw [hbit i c hi (by omega), hbc, decide_eq_true hc]; rfl⟩
  · obtain ⟨⟨p1, p2⟩, ⟨q1, q2⟩, -⟩ := edgeV_iff.1 (hes e he)
    obtain ⟨x, y⟩ := e
    dsimp only at *
    obtain ⟨a, rfl⟩ : ∃ a : Nat, x = (a : Int) + 1 := ⟨(x - 1).toNat, by omega⟩
    obtain ⟨c, rfl⟩ : ∃ c : Nat, y = (c : Int) + 1 := ⟨(y - 1).toNat, by omega⟩
    rw [clT_edge, hbit a m (by omega) (by omega), hbit c m (by omega) (by omega)]
    rcases Nat.lt_or_ge m k with hmk | hmk
    · rcases clT_edge.1 (h2 _ he m hmk) with hh | hh
      · left; rw [hh]; simp
      · right; rw [hh]; simp
    · left; rw [decide_eq_false (by omega)]; rfl

/-- The seeded Cnf at any arguments. -/
noncomputable def sdV (vars cl wd sd : Int) : Int := if seedOk vars cl wd sd then vars else 0
noncomputable def sdY (vars cl wd sd : Int) : List (List Int) := if seedOk vars cl wd sd then seedL vars wd.toNat sd cl.toNat else []
theorem seedOk_parts {vars cl wd sd : Int} (h : seedOk vars cl wd sd = true) : (1 ≤ vars ∧ vars ≤ 12) ∧ (0 ≤ cl ∧ cl ≤ 60) ∧ (1 ≤ wd ∧ wd ≤ vars) ∧ 0 ≤ sd ∧ sd ≤ 9999 := by
  unfold seedOk inB at h
  simp only [Bool.and_eq_true, decide_eq_true_eq] at h
  omega
theorem seed_clause {vars : Int} {wd : Nat} {sd : Int} (hv : 1 ≤ vars ∧ vars ≤ 12) (hw : (wd : Int) ≤ vars) (hs : 0 ≤ sd ∧ sd ≤ 9999) {k : Nat} {c : List Int} (h : c ∈ seedL vars wd sd k) : clauseB vars c = true ∧ c.length = wd := by
  obtain ⟨i, -, rfl⟩ := List.mem_map.1 h
  obtain ⟨⟨m, hr⟩, hd, -⟩ := nextS_spec (s := stateS vars wd sd i) hv.1 (by omega) hw (stateS_rng hv.1 (by omega) hw (by omega) i)
  obtain ⟨h1, h2, h3⟩ := dist_clause hd (by omega)
  refine ⟨good_clause ⟨by omega, by omega⟩ h2 (dist_top hd (by omega)), ?_⟩
  show (cptL (nextS vars wd (stateS vars wd sd i)).2).length = wd
  rw [h3, runs_len hr]
theorem seed_good {vars : Int} {wd : Nat} {sd : Int} (hv : 1 ≤ vars ∧ vars ≤ 12) (hw : (wd : Int) ≤ vars) (hs : 0 ≤ sd ∧ sd ≤ 9999) {k : Nat} (hk : k ≤ 60) : goodB vars (seedL vars wd sd k) = true := by
  unfold goodB
  rw [inB_true.2 ⟨by omega, by omega⟩, seedL_len, decide_eq_true hk]
  rw [Bool.true_and, Bool.true_and, List.all_eq_true]
  exact fun c hc => (seed_clause hv hw hs hc).1
theorem implSeeded_any (vars cl wd sd : Int) (w : World) (hmc : MustC) : Calls Try.prog 6 #[.int .i64 vars, .int .i64 cl, .int .i64 wd, .int .i64 sd] w (CnfR w (sdV vars cl wd sd) (sdY vars cl wd sd) (seedOk vars cl wd sd)) := by
  unfold sdV sdY
  cases h : seedOk vars cl wd sd with
  | false => exact seededNo_any vars cl wd sd w h
  | true =>
    obtain ⟨hv, hc, hw, hs⟩ := seedOk_parts h
    have hg := seed_good hv (show ((wd.toNat : Nat) : Int) ≤ vars by omega) hs (show cl.toNat ≤ 60 by omega)
    have := seededYes_any hmc vars sd cl.toNat wd.toNat w hv (by omega) ⟨by omega, by omega⟩ hs
    rw [(give_yes hg).1, (give_yes hg).2, hg, Int.toNat_of_nonneg hc.1, Int.toNat_of_nonneg (show 0 ≤ wd by omega)] at this
    exact this
theorem specSeeded_any (vars cl wd sd : Int) (w : World) : Calls Try.prog 7 #[.int .i64 vars, .int .i64 cl, .int .i64 wd, .int .i64 sd] w (CnfR w (sdV vars cl wd sd) (sdY vars cl wd sd) (seedOk vars cl wd sd)) := by
  unfold sdV sdY
  cases h : seedOk vars cl wd sd with
  | false => exact specSeededNo_any vars cl wd sd w h
  | true =>
    obtain ⟨hv, hc, hw, hs⟩ := seedOk_parts h
    have hg := seed_good hv (show ((wd.toNat : Nat) : Int) ≤ vars by omega) hs (show cl.toNat ≤ 60 by omega)
    have := specSeededYes_any vars sd cl.toNat wd.toNat w hv (by omega) ⟨by omega, by omega⟩ hs
    rw [(give_yes hg).1, (give_yes hg).2, hg, Int.toNat_of_nonneg hc.1, Int.toNat_of_nonneg (show 0 ≤ wd by omega)] at this
    exact this
/-- The Cnf of a coloring at any arguments. -/
def okCol (n k : Nat) (es : List (Int × Int)) : Bool := inB n 1 12 && inB k 1 12 && decide (es.length ≤ 30)
def colGB (n k : Nat) (es : List (Int × Int)) : Bool := okCol n k es && colB n k es
def colGV (n k : Nat) (es : List (Int × Int)) : Int := if colGB n k es then (n : Int) * k else 0
def colGY (n k : Nat) (es : List (Int × Int)) : List (List Int) := if colGB n k es then colL n k es es.length else []
theorem okCol_parts {n k : Nat} {es : List (Int × Int)} (h : okCol n k es = true) : (1 ≤ n ∧ n ≤ 12) ∧ (1 ≤ k ∧ k ≤ 12) ∧ es.length ≤ 30 := by
  unfold okCol inB at h
  simp only [Bool.and_eq_true, decide_eq_true_eq] at h
  omega
theorem implColoring_any (n k : Nat) (es : List (Int × Int)) (A : Option Addr) (cap : Nat) (w : World) (hmc : MustC) (he : EdgesAt w A es) : Calls Try.prog 11 #[.int .i64 n, .slice A es.length cap, .int .i64 k] w (CnfR w (colGV n k es) (colGY n k es) (colGB n k es)) := by
  unfold colGV colGY colGB
  cases h : okCol n k es with
  | false => exact coloringNo_any n k es.length cap A w h
  | true =>
    obtain ⟨hn, hk, hl⟩ := okCol_parts h
    exact coloringYes_any hmc n k es A cap w hn hk he hl
theorem specColoring_any (n k : Nat) (es : List (Int × Int)) (A : Option Addr) (cap : Nat) (w : World) (he : EdgesAt w A es) : Calls Try.prog 12 #[.int .i64 n, .slice A es.length cap, .int .i64 k] w (CnfR w (colGV n k es) (colGY n k es) (colGB n k es)) := by
  unfold colGV colGY colGB
  cases h : okCol n k es with
  | false => exact specColoringNo_any n k es.length cap A w h
  | true =>
    obtain ⟨hn, hk, hl⟩ := okCol_parts h
    exact specColoringYes_any n k es A cap w hn hk he hl
/-- What the law asks of a coloring and of one color more. -/
theorem col_more {n k : Nat} {es : List (Int × Int)} (h1 : colGB n k es = true) (h2 : colGB n (k + 1) es = true) (h3 : (List.range (2 ^ (colGV n k es).toNat)).any (modT (colGY n k es)) = true) :
    (List.range (2 ^ (colGV n (k + 1) es).toNat)).any (modT (colGY n (k + 1) es)) = true := by
  unfold colGV colGY at *
  rw [h1, if_pos rfl, if_pos rfl] at h3
  rw [h2, if_pos rfl, if_pos rfl]
  rw [List.any_eq_true] at *
  obtain ⟨b, -, hb⟩ := h3
  have hes : ∀ e ∈ es, edgeV n e = true := by
    unfold colGB colB at h1
    simp only [Bool.and_eq_true, List.all_eq_true] at h1
    exact h1.2.1
  obtain ⟨b', hb', hm⟩ := sat_more hes hb
  have e : ((n : Int) * ((k + 1 : Nat) : Int)).toNat = n * (k + 1) := by rw [← Int.natCast_mul]; rfl
  rw [e]
  exact ⟨b', List.mem_range.2 hb', hm⟩
theorem colG_good {n k : Nat} {es : List (Int × Int)} (h : colGB n k es = true) : goodB (colGV n k es) (colGY n k es) = true := by
  unfold colGV colGY
  rw [h, if_pos rfl, if_pos rfl]
  unfold colGB colB at h
  simp only [Bool.and_eq_true] at h
  exact h.2.2
end Go.Proofs.Ytnjdmakbdhobgaa
