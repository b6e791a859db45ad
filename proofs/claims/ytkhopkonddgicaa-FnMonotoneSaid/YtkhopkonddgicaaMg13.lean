/- Lemmas and contracts for a law, put together out of several texts: GuG GvC GvD GvE. -/
import Derived.Test.YtkhopkonddgicaaMg12
import Derived.Test.YtkhopkonddgicaaMg10
import Derived.Test.YtkhopkonddgicaaMg6
/- Contracts: trimmed, folded and dual circuits, in the reference and in the program; needed gates. -/
namespace Go.Proofs.Ytkhopkonddgicaa
open Go.RowKit

set_option maxRecDepth 100000 in
set_option maxHeartbeats 8000000 in
theorem specFold_any (vars : Int) (A : Option Addr) (c : Nat) (gs : List Gt) (w : World) (hx : GtAt w A gs) (hl : gs.length ≤ 1000) :
    Calls Try.prog 22 #[.int .i64 vars, .slice A gs.length c] w (GOut w (circB vars gs) (foldR gs)) := by
  have hc := l6Good_any vars A c gs w hx (by omega)
  cases hq : circB vars gs
  · rw [hq] at hc
    replace hc := Lib.hid hc
    clear hx hq
    go_enter Try.func22, Try.ntmps22
    go_wp2_with fail
    refine hc.out.mono ?_
    rintro e w1 ⟨rfl, hb1⟩
    have S2 := Lib.hid ((Sp.of_below hb1).own_made 41 3)
    go_wp2_with fail
    go_ret2
    exact ⟨_, rfl, S2.out⟩
  · rw [hq] at hc
    obtain ⟨-, hv, hp, -, hok⟩ := circ_vars hq
    have hf := Lib.hid (fun W (h : Below w.heap.size w W) => l6Fold_any A c gs W (hx.grow h) hok hp hl (by omega))
    replace hc := Lib.hid hc
    clear hx hq hok
    go_enter Try.func22, Try.ntmps22
    go_wp2_with fail
    refine hc.out.mono ?_
    rintro e w1 ⟨rfl, hb1⟩
    have hf2 := Lib.hid (hf.out _ hb1)
    replace hb1 := Lib.hid (Sp.of_below hb1)
    clear hf hc
    go_wp2_with fail
    refine hf2.out.mono ?_
    rintro e w2 ⟨v, rfl, S2⟩
    have S3 := Lib.hid (hb1.out.seq S2)
    clear hf2 hb1 S2
    go_wp2_with fail
    go_ret2
    exact GOut.yes S3.out

set_option maxRecDepth 100000 in
set_option maxHeartbeats 8000000 in
theorem specTrim_any (vars : Int) (A : Option Addr) (c : Nat) (gs : List Gt) (w : World) (hx : GtAt w A gs) (hl : gs.length ≤ 1000) :
    Calls Try.prog 20 #[.int .i64 vars, .slice A gs.length c] w (GOut w (circB vars gs) (trimG gs (needL gs))) := by
  have hc := l6Good_any vars A c gs w hx (by omega)
  cases hq : circB vars gs
  · rw [hq] at hc
    replace hc := Lib.hid hc
    clear hx hq
    go_enter Try.func20, Try.ntmps20
    go_wp2_with fail
    refine hc.out.mono ?_
    rintro e w1 ⟨rfl, hb1⟩
    have S2 := Lib.hid ((Sp.of_below hb1).own_made 41 3)
    go_wp2_with fail
    go_ret2
    exact ⟨_, rfl, S2.out⟩
  · rw [hq] at hc
    obtain ⟨-, hv, hp, -, hok⟩ := circ_vars hq
    have hf := Lib.hid (fun W (h : Below w.heap.size w W) => l6Trim_any A c gs W (hx.grow h) hok hp hl (by omega))
    replace hc := Lib.hid hc
    clear hx hq hok
    go_enter Try.func20, Try.ntmps20
    go_wp2_with fail
    refine hc.out.mono ?_
    rintro e w1 ⟨rfl, hb1⟩
    have hf2 := Lib.hid (hf.out _ hb1)
    replace hb1 := Lib.hid (Sp.of_below hb1)
    clear hf hc
    go_wp2_with fail
    refine hf2.out.mono ?_
    rintro e w2 ⟨v, rfl, S2⟩
    have S3 := Lib.hid (hb1.out.seq S2)
    clear hf2 hb1 S2
    go_wp2_with fail
    go_ret2
    exact GOut.yes S3.out

set_option maxRecDepth 100000 in
set_option maxHeartbeats 8000000 in
theorem specPushM_any (vars : Int) (A : Option Addr) (c : Nat) (gs : List Gt) (w : World) (hx : GtAt w A gs) (hl : gs.length ≤ 1000) :
    Calls Try.prog 23 #[.int .i64 vars, .slice A gs.length c] w (GOut w (circB vars gs && decide ((pushesG gs).out.length ≤ 200)) (pushR gs)) := by
  have hc := l6Good_any vars A c gs w hx (by omega)
  cases hq : circB vars gs
  · rw [hq] at hc
    replace hc := Lib.hid hc
    clear hx hq
    rw [Bool.false_and]
    go_enter Try.func23, Try.ntmps23
    go_wp2_with fail
    refine hc.out.mono ?_
    rintro e w1 ⟨rfl, hb1⟩
    have S2 := Lib.hid ((Sp.of_below hb1).own_made 41 3)
    go_wp2_with fail
    go_ret2
    exact ⟨_, rfl, S2.out⟩
  · rw [Bool.true_and]
    exact specPush_any vars A c gs w hx hq

theorem gt_src2 {w : World} {A : Option Addr} {gs : List Gt} (h : GtAt w A gs) : Src w A gs.length 3 (gs.flatMap gtEnc) := by
  rcases Nat.eq_zero_or_pos gs.length with h0 | h0
  · obtain rfl := List.length_eq_zero_iff.1 h0
    exact .inl ⟨rfl, rfl⟩
  · obtain ⟨b, off, rfl, -, -, -⟩ := h.at_ 0 h0
    have hfl : (gs.flatMap gtEnc).length = gs.length * 3 := by
      clear h h0
      induction gs with
      | nil => rfl
      | cons g gs ih => rw [List.flatMap_cons, List.length_append, ih, List.length_cons]; simp [gtEnc]; omega
    refine .inr ⟨_, rfl, hfl, fun j u hj => ?_⟩
    have hjl : j < gs.length * 3 := by
      rw [← hfl]
      exact (List.getElem?_eq_some_iff.1 hj).1
    obtain ⟨i, r, hr, rfl⟩ : ∃ i r, r < 3 ∧ j = i * 3 + r := ⟨j / 3, j % 3, Nat.mod_lt _ (by decide), by omega⟩
    have hi : i < gs.length := by omega
    have hf := flat_get (enc := gtEnc) (n := 3) (fun _ => rfl) gs i hi r hr
    rw [hj] at hf
    obtain ⟨b', off', e, m0, m1, m2⟩ := h.at_ i hi
    cases e
    rw [add_none]
    match r, hr, hf with
    | 0, _, hf => cases hf; exact m0
    | 1, _, hf => cases hf; exact m1
    | 2, _, hf => cases hf; exact m2
theorem gt_one (gs : List Gt) : ∀ u ∈ gs.flatMap gtEnc, u.oneCell' = true := by
  intro u hu
  obtain ⟨g, -, hg⟩ := List.mem_flatMap.1 hu
  simp only [gtEnc, List.mem_cons, List.not_mem_nil, or_false] at hg
  rcases hg with rfl | rfl | rfl <;> rfl

set_option maxRecDepth 100000 in
set_option maxHeartbeats 4000000 in
theorem cloneG_any (A : Option Addr) (c : Nat) (gs : List Gt) (w : World) (hx : GtAt w A gs) (hp : 0 < gs.length) (hl : gs.length ≤ 1000) :
    Calls Try.prog 64 #[.slice A gs.length c] w fun e w' => ∃ v, e = .returned v ∧ Sp w w' [Own 41 3 v gs.length (gs.flatMap gtEnc)] := by
  obtain ⟨i0, hi0, hz0, hz1, hz2⟩ := info_parts infoGt
  obtain ⟨b, off, rfl, -, -, -⟩ := hx.at_ 0 hp
  have hnil := fun w : World => Lib.run_eql_slice_nil (P := Try.prog) w 28 41 (some ⟨b, off, none⟩) gs.length c 0 0 Try.underlying28
  simp only [Option.isNone_some] at hnil
  have S4 := (Sp.start w).own_made 41 3
  have hsr := Lib.hid (gt_src2 (hx.grow S4.below))
  have h1c := Lib.hid (gt_one gs)
  replace S4 := Lib.hid S4
  clear hx
  go_enter Try.func64, Try.ntmps64
  go_wp2_with (at_builtin; refine wpList_append_src rfl _ _ rfl Try.underlying28 hi0 hz0 hz1 hz2 rfl (by decide) _ 0 _ rfl (S4.out.own (i := 0) rfl) (some ⟨b, off, none⟩) gs.length c (gs.flatMap gtEnc) rfl hsr.out h1c.out ?c3 ?c4 ?_)
  case c3 => unfold maxLen; omega
  case c4 => omega
  intro vY wY hownY hgY hatY
  have S5 := S4.out.own_push (i := 0) rfl (bb _) hownY hgY (by simpa using hatY)
  (try rw [List.nil_append] at S5)
  (try simp only [Nat.zero_add, List.set_cons_zero] at S5)
  replace S5 := Lib.hid S5
  obtain ⟨aY, cY, rfl⟩ := own_slice hownY
  clear S4 hownY hgY hatY hsr h1c hnil
  go_wp2_with fail
  go_ret
  exact ⟨_, rfl, S5.out⟩

/-- The first gates made dual. -/
def dualT (gs : List Gt) (q : Nat) : List Gt := (gs.take q).map dualG ++ gs.drop q
theorem dualT_zero (gs : List Gt) : dualT gs 0 = gs := by simp [dualT]
theorem dualT_all (gs : List Gt) : dualT gs gs.length = dualC gs := by simp [dualT, dualC]
theorem dualT_len (gs : List Gt) (q : Nat) : (dualT gs q).length = gs.length := by simp [dualT]; omega
theorem flatG_len (gs : List Gt) : (gs.flatMap gtEnc).length = gs.length * 3 := by
  induction gs with
  | nil => rfl
  | cons g gs ih => rw [List.flatMap_cons, List.length_append, ih, List.length_cons]; simp [gtEnc]; omega
theorem dualT_set {gs : List Gt} {q : Nat} (h : q < gs.length) : ((dualT gs q).flatMap gtEnc).set (q * 3) (.int .i64 (dualK gs[q].k)) = (dualT gs (q + 1)).flatMap gtEnc := by
  have e1 : gs.drop q = gs[q] :: gs.drop (q + 1) := (List.getElem_cons_drop h).symm
  unfold dualT
  rw [List.take_succ_eq_append_getElem h, e1, List.map_append, List.append_assoc, List.flatMap_append, List.flatMap_append, List.flatMap_cons]
  have hl : (((gs.take q).map dualG).flatMap gtEnc).length = q * 3 := by rw [flatG_len, List.length_map, List.length_take]; congr 1; omega
  rw [List.set_append_right _ _ (by omega), hl, Nat.sub_self]
  rfl
theorem dualT_at {gs : List Gt} {q : Nat} (h : q < gs.length) : ((dualT gs q).flatMap gtEnc)[q * 3]? = some (.int .i64 gs[q].k) := by
  have e1 : gs.drop q = gs[q] :: gs.drop (q + 1) := (List.getElem_cons_drop h).symm
  unfold dualT
  rw [e1, List.flatMap_append, List.flatMap_cons]
  have hl : (((gs.take q).map dualG).flatMap gtEnc).length = q * 3 := by rw [flatG_len, List.length_map, List.length_take]; congr 1; omega
  rw [List.getElem?_append_right (by omega), hl, Nat.sub_self]
  rfl

set_option maxRecDepth 100000 in
set_option maxHeartbeats 8000000 in
theorem dualM_any (vars : Int) (A : Option Addr) (c : Nat) (gs : List Gt) (w : World) (hx : GtAt w A gs) (hl : gs.length ≤ 1000) :
    Calls Try.prog 24 #[.int .i64 vars, .slice A gs.length c] w (GOut w (circB vars gs) (dualC gs)) := by
  have hc := isCircuit_any vars A c gs w hx (by omega)
  cases hq : circB vars gs
  · rw [hq] at hc
    replace hc := Lib.hid hc
    clear hx hq
    go_enter Try.func24, Try.ntmps24
    go_wp2_with fail
    refine hc.out.mono ?_
    rintro e w1 ⟨rfl, hb1⟩
    replace hb1 := Lib.hid hb1
    go_wp2_with fail
    go_ret2
    exact GOut.no hb1.out
  · rw [hq] at hc
    obtain ⟨-, hv, hp, -, hok⟩ := circ_vars hq
    have hf := Lib.hid (fun W (h : Below w.heap.size w W) => cloneG_any A c gs W (hx.grow h) hp hl)
    replace hc := Lib.hid hc
    clear hx hq hok
    go_enter Try.func24, Try.ntmps24
    go_wp2_with fail
    refine hc.out.mono ?_
    rintro e w1 ⟨rfl, hb1⟩
    have hf2 := Lib.hid (hf.out _ hb1)
    replace hb1 := Lib.hid (Sp.of_below hb1)
    clear hf hc
    go_wp2_with fail
    refine hf2.out.mono ?_
    rintro e w2 ⟨v, rfl, S2⟩
    have S3 := hb1.out.seq S2
    obtain ⟨gb, cap, cur, rfl, -⟩ := own_block (S3.own (i := 0) rfl) hp
    have S4 : Hid (Sp w w2 [Own 41 3 (.slice (some ⟨gb, 0, none⟩) gs.length cap) gs.length ((dualT gs 0).flatMap gtEnc)]) := by unfold Hid; rw [dualT_zero]; exact S3
    clear hf2 hb1 S2 S3
    go_wp2_with fail
    go_loopw [16] (fun i wr => ∃ q : Nat, q ≤ gs.length ∧ i = .int .i64 (q : Int) ∧ Hid (Sp w wr [Own 41 3 (.slice (some ⟨gb, 0, none⟩) gs.length cap) gs.length ((dualT gs q).flatMap gtEnc)])) (fun i _ => gs.length - (intOf i).toNat)
    case atStart => exact ⟨0, Nat.zero_le _, rfl, S4⟩
    case round =>
      obtain ⟨q, hqn, rfl, hS⟩ := hrel
      clear S4
      by_cases hlt : q < gs.length
      · have hqi : (q : Int) < gs.length := by omega
        obtain ⟨g', cap', cur', e', -, hh', -, -, -, ht'⟩ := own_block (hS.out.own (i := 0) rfl) hp
        cases e'
        have hcf := own_at hh' ht' (o := q * 3) (by omega)
        rw [dualT_at hlt] at hcf
        obtain ⟨t0, t1⟩ := hcf
        have S5 := hS.out.own_put (i := 0) rfl (o := q * 3) (.int .i64 (dualK gs[q].k)) (by omega)
        rw [dualT_set hlt] at S5
        have hdk := Lib.hid (fun W => dualKind_any gs[q].k W)
        generalize gs[q].k = k at t0 S5 hdk
        generalize dualK k = dk at S5 hdk
        replace S5 := Lib.hid S5
        clear hS hh' ht'
        go_wp2_with fail
        refine (hdk.out _).mono ?_
        rintro e w4 ⟨rfl, rfl⟩
        go_wp2_with fail
        go_roundw
        case rel => exact ⟨q + 1, by omega, by first | rfl | simp, S5⟩
        case measure => simp [intOf]; omega
      · obtain rfl : q = gs.length := by omega
        rw [dualT_all] at hS
        have S6 : Hid (Sp w wr [Own 41 3 (.slice (some ⟨gb, 0, none⟩) gs.length cap) (dualC gs).length ((dualC gs).flatMap gtEnc)]) := by unfold Hid; rw [dualC_len]; exact hS.out
        clear hS
        go_wp2_with fail
        go_ret2
        exact GOut.yes S6.out

set_option maxRecDepth 100000 in
set_option maxHeartbeats 8000000 in
theorem specDual_any (vars : Int) (A : Option Addr) (c : Nat) (gs : List Gt) (w : World) (hx : GtAt w A gs) (hl : gs.length ≤ 1000) :
    Calls Try.prog 25 #[.int .i64 vars, .slice A gs.length c] w (GOut w (circB vars gs) (dualC gs)) := by
  obtain ⟨i0, hi0, hz0, hz1, hz2⟩ := info_parts infoGt
  have S0 := (Sp.start w).own_made 41 3
  have hc := l6Good_any vars A c gs _ (hx.grow S0.below) (by omega)
  have hX := Lib.hid hx
  replace S0 := Lib.hid S0
  cases hq : circB vars gs
  · rw [hq] at hc
    replace hc := Lib.hid hc
    clear hx hq
    go_enter Try.func25, Try.ntmps25
    go_wp2_with fail
    refine hc.out.mono ?_
    rintro e w1 ⟨rfl, hb1⟩
    have S2 := Lib.hid (S0.out.grow hb1)
    go_wp2_with fail
    go_ret2
    exact ⟨_, rfl, S2.out⟩
  · rw [hq] at hc
    replace hc := Lib.hid hc
    clear hx hq
    go_enter Try.func25, Try.ntmps25
    go_wp2_with fail
    refine hc.out.mono ?_
    rintro e w1 ⟨rfl, hb1⟩
    have S2 := Lib.hid (S0.out.grow hb1)
    clear S0 hc hb1
    go_wp2_with fail
    go_loopw [7, 6] (fun i o wr => ∃ (q : Nat) (ov : Value), q ≤ gs.length ∧ i = .int .i64 (q : Int) ∧ o = ov ∧ Hid (Sp w wr [Own 41 3 ov q (((gs.take q).map dualG).flatMap gtEnc)])) (fun i _ _ => gs.length - (intOf i).toNat)
    case atStart => exact ⟨0, _, Nat.zero_le _, rfl, rfl, S2⟩
    case round =>
      obtain ⟨q, ov, hqn, rfl, rfl, hS⟩ := hrel
      clear S2
      obtain ⟨aO, cO, rfl⟩ := own_slice (hS.out.own (i := 0) rfl)
      by_cases hlt : q < gs.length
      · have hqi : (q : Int) < gs.length := by omega
        obtain ⟨bg, og, e, n0, n1, n2⟩ := hX.out.at_ q hlt
        cases e
        have hbl := World.block_lt_of_cell? _ _ n0
        have htk : Hid ((gs.take (q + 1)).map dualG = (gs.take q).map dualG ++ [⟨dualK gs[q].k, gs[q].a, gs[q].b⟩]) := by unfold Hid; rw [List.take_succ_eq_append_getElem hlt, List.map_append]; rfl
        have hdk := Lib.hid (fun W => l6Opposite_any gs[q].k W)
        generalize gs[q] = g at n0 n1 n2 htk hdk
        obtain ⟨gk, ga, gb⟩ := g
        dsimp only at n0 n1 n2 htk hdk
        generalize dualK gk = dk at htk hdk
        have hcells : Hid (∀ W, Below w.heap.size w W → W.cell? ⟨bg, og + q * 3, none⟩ = some (.int .i64 gk) ∧ W.cell? ⟨bg, og + q * 3 + 1, none⟩ = some (.int .i64 ga) ∧ W.cell? ⟨bg, og + q * 3 + 2, none⟩ = some (.int .i64 gb)) := fun W h =>
          ⟨(h.cell (p := ⟨bg, og + q * 3, none⟩) hbl).trans n0, (h.cell (p := ⟨bg, og + q * 3 + 1, none⟩) hbl).trans n1, (h.cell (p := ⟨bg, og + q * 3 + 2, none⟩) hbl).trans n2⟩
        obtain ⟨m0, m1, m2⟩ := hcells.out _ hS.out.below
        clear n0 n1 n2 hbl
        go_wp2_with fail
        refine wp_region_held_lit (S := (fun w' => w'.cell? ⟨bg, og + q * 3, none⟩ = some (.int .i64 gk) ∧ w'.cell? ⟨bg, og + q * 3 + 1, none⟩ = some (.int .i64 ga) ∧ w'.cell? ⟨bg, og + q * 3 + 2, none⟩ = some (.int .i64 gb))) 21 [false, false, false, false, false, false, false, false, false, false, false, false, false, false, false, false, false, false, false, false, false] (by kernel_rfl) (by kernel_rfl) (by kernel_rfl) ?_ ?_
        · exact ⟨m0, m1, m2⟩
        intro hSc
        (refine wpAnyH_take (i := 0) (v := ?_) rfl (by kernel_rfl) (by kernel_rfl) (by kernel_rfl) (fun _ _ _ h => h) (Or.inl ⟨by rfl, ?_⟩) (by assumption) ?_; rotate_left; (focus (intro w hSw; (try dsimp only at hSw); go_simp; (try with_reducible rfl); done)); (try simp only [put_rules]))
        (refine wpAnyH_take (i := 1) (v := ?_) rfl (by kernel_rfl) (by kernel_rfl) (by kernel_rfl) (fun _ _ _ h => h) (Or.inl ⟨by rfl, ?_⟩) (by assumption) ?_; rotate_left; (focus (intro w hSw; (try dsimp only at hSw); go_simp; (try with_reducible rfl); done)); (try simp only [put_rules]))
        (refine wpAnyH_take (i := 2) (v := ?_) rfl (by kernel_rfl) (by kernel_rfl) (by kernel_rfl) (fun _ _ _ h => h) (Or.inl ⟨by rfl, ?_⟩) (by assumption) ?_; rotate_left; (focus (intro w hSw; (try dsimp only at hSw); go_simp; (try with_reducible rfl); done)); (try simp only [put_rules]))
        (refine wpAnyH_take (i := 3) (v := ?_) rfl (by kernel_rfl) (by kernel_rfl) (by kernel_rfl) (fun _ _ _ h => h) (Or.inl ⟨by rfl, ?_⟩) (by assumption) ?_; rotate_left; (focus (intro w hSw; (try dsimp only at hSw); go_simp; (try with_reducible rfl); done)); (try simp only [put_rules]))
        (refine wpAnyH_take (i := 4) (v := ?_) rfl (by kernel_rfl) (by kernel_rfl) (by kernel_rfl) (fun _ _ _ h => h) (Or.inl ⟨by rfl, ?_⟩) (by assumption) ?_; rotate_left; (focus (intro w hSw; (try dsimp only at hSw); go_simp; (try with_reducible rfl); done)); (try simp only [put_rules]))
        (refine wpAnyH_take (i := 5) (v := ?_) rfl (by kernel_rfl) (by kernel_rfl) (by kernel_rfl) (fun _ _ _ h => h) (Or.inl ⟨by rfl, ?_⟩) (by assumption) ?_; rotate_left; (focus (intro w hSw; (try dsimp only at hSw); go_simp; (try with_reducible rfl); done)); (try simp only [put_rules]))
        (refine wpAnyH_take (i := 7) (v := ?_) rfl (by kernel_rfl) (by kernel_rfl) (by kernel_rfl) (fun _ _ _ h => h) (Or.inl ⟨by rfl, ?_⟩) (by assumption) ?_; rotate_left; (focus (intro w hSw; (try dsimp only at hSw); go_simp; (try with_reducible rfl); done)); (try simp only [put_rules]))
        (refine wpAnyH_take (i := 8) (v := ?_) rfl (by kernel_rfl) (by kernel_rfl) (by kernel_rfl) (fun _ _ _ h => h) (Or.inl ⟨by rfl, ?_⟩) (by assumption) ?_; rotate_left; (focus (intro w hSw; (try dsimp only at hSw); go_simp; (try with_reducible rfl); done)); (try simp only [put_rules]))
        (refine wpAnyH_take (i := 9) (v := ?_) rfl (by kernel_rfl) (by kernel_rfl) (by kernel_rfl) (fun _ _ _ h => h) (Or.inl ⟨by rfl, ?_⟩) (by assumption) ?_; rotate_left; (focus (intro w hSw; (try dsimp only at hSw); go_simp; (try with_reducible rfl); done)); (try simp only [put_rules]))
        (refine wpAnyH_take (i := 10) (v := ?_) rfl (by kernel_rfl) (by kernel_rfl) (by kernel_rfl) (fun _ _ _ h => h) (Or.inl ⟨by rfl, ?_⟩) (by assumption) ?_; rotate_left; (focus (intro w hSw; (try dsimp only at hSw); go_simp; (try with_reducible rfl); done)); (try simp only [put_rules]))
        (refine wpAnyH_take (i := 11) (v := ?_) rfl (by kernel_rfl) (by kernel_rfl) (by kernel_rfl) (fun _ _ _ h => h) (Or.inl ⟨by rfl, ?_⟩) (by assumption) ?_; rotate_left; (focus (intro w hSw; (try dsimp only at hSw); go_simp; (try with_reducible rfl); done)); (try simp only [put_rules]))
        (refine wpAnyH_take (i := 12) (v := ?_) rfl (by kernel_rfl) (by kernel_rfl) (by kernel_rfl) (fun _ _ _ h => h) (Or.inl ⟨by rfl, ?_⟩) (by assumption) ?_; rotate_left; (focus (intro w hSw; (try dsimp only at hSw); go_simp; (try with_reducible rfl); done)); (try simp only [put_rules]))
        (refine wpAnyH_take (i := 13) (v := ?_) rfl (by kernel_rfl) (by kernel_rfl) (by kernel_rfl) (fun _ _ _ h => h) (Or.inl ⟨by rfl, ?_⟩) (by assumption) ?_; rotate_left; (focus (intro w hSw; (try dsimp only at hSw); go_simp; (try with_reducible rfl); done)); (try simp only [put_rules]))
        (refine wpAnyH_take (i := 14) (v := ?_) rfl (by kernel_rfl) (by kernel_rfl) (by kernel_rfl) (fun _ _ _ h => h) (Or.inl ⟨by rfl, ?_⟩) (by assumption) ?_; rotate_left; (focus (intro w hSw; (try dsimp only at hSw); go_simp; (try with_reducible rfl); done)); (try simp only [put_rules]))
        (refine wpAnyH_take (i := 15) (v := ?_) rfl (by kernel_rfl) (by kernel_rfl) (by kernel_rfl) (fun _ _ _ h => h) (Or.inl ⟨by rfl, ?_⟩) (by assumption) ?_; rotate_left; (focus (intro w hSw; (try dsimp only at hSw); go_simp; (try with_reducible rfl); done)); (try simp only [put_rules]))
        (refine wpAnyH_take (i := 16) (v := ?_) rfl (by kernel_rfl) (by kernel_rfl) (by kernel_rfl) (fun _ _ _ h => h) (Or.inl ⟨by rfl, ?_⟩) (by assumption) ?_; rotate_left; (focus (intro w hSw; (try dsimp only at hSw); go_simp; (try with_reducible rfl); done)); (try simp only [put_rules]))
        have SD := Lib.hid hS.out.drew
        clear hS
        (refine wpAnyH_ready (rs := [6]) (by kernel_rfl) (by simp) ?_; refine AllReadyH.cons rfl (fun K hK => ?_) AllReadyH.nil)
        go_simp
        go_at_call 62
        refine (hdk.out _).mono ?_
        rintro e w4 ⟨rfl, rfl⟩
        go_wp2_with fail
        refine hK.out _ _ hSc (fun hS2 => ?_)
        clear hK
        (try simp only [put_rules])
        (refine wpAnyH_take (i := 17) (v := ?_) rfl (by kernel_rfl) (by kernel_rfl) (by kernel_rfl) (fun _ _ _ h => h) (Or.inl ⟨by rfl, ?_⟩) (by assumption) ?_; rotate_left; (focus (intro w hSw; (try dsimp only at hSw); go_simp; (try with_reducible rfl); done)); (try simp only [put_rules]))
        clear m0 m1 m2
        (refine wpAnyH_ready (rs := [18]) (by kernel_rfl) (by simp) ?_; refine AllReadyH.cons rfl (fun K hK => ?_) AllReadyH.nil)
        go_simp
        have S5 := Lib.hid (SD.out.alloc_box #[.int .i64 dk, .int .i64 ga, .int .i64 gb] 41)
        refine hK.out _ _ (hcells.out _ S5.out.below) (fun hS3 => ?_)
        clear hK SD hS2 hSc
        (try simp only [put_rules])
        (refine wpAnyH_ready (rs := [19]) (by kernel_rfl) (by simp) ?_; refine AllReadyH.cons rfl (fun K hK => ?_) AllReadyH.nil)
        (refine step_append_src rfl _ _ rfl Try.underlying28 hi0 hz0 hz1 hz2 rfl (by decide) _ q _ rfl (S5.out.own (i := 1) rfl) _ 1 1 [.int .i64 dk, .int .i64 ga, .int .i64 gb] rfl (Src.threeG (S5.out.cell (i := 0) rfl (o := 0) rfl) (S5.out.cell (i := 0) rfl (o := 1) rfl) (S5.out.cell (i := 0) rfl (o := 2) rfl)) (by simp [Value.oneCell']) (by unfold maxLen; omega) (by omega) ?_; intro vE wE hownE hgE hatE)
        have S6 := S5.out.own_push (i := 1) rfl (bb _) hownE hgE hatE
        obtain ⟨aE, cE, rfl⟩ := own_slice hownE
        refine hK.out _ _ (hcells.out _ S6.below) (fun _ => ?_)
        have S7 := Lib.hid S6.tail
        clear hK S5 S6 hownE hgE hatE hS3
        (try simp only [put_rules])
        (refine wpAnyH_take (i := 20) (v := ?_) rfl (by kernel_rfl) (by kernel_rfl) (by kernel_rfl) (fun _ _ _ h => h) (Or.inl ⟨by rfl, ?_⟩) (by assumption) ?_; rotate_left; (focus (intro w hSw; (try dsimp only at hSw); go_simp; (try with_reducible rfl); done)); (try simp only [put_rules]))
        (refine wpAnyH_done (by kernel_rfl) ?_ _)
        go_wp2_with fail
        go_roundw
        case rel =>
          refine ⟨q + 1, _, by omega, by first | rfl | simp, rfl, ?_⟩
          unfold Hid
          rw [htk.out, flat_snoc]
          exact S7.out
        case measure => simp [intOf]; omega
      · obtain rfl : q = gs.length := by omega
        have hT : Hid (Sp w wr [Own 41 3 (.slice aO gs.length cO) (dualC gs).length ((dualC gs).flatMap gtEnc)]) := by
          unfold Hid
          rw [dualC_len]
          have h := hS.out
          rw [List.take_length] at h
          exact h
        clear hS
        go_wp2_with fail
        go_ret2
        exact GOut.yes hT.out

set_option maxRecDepth 100000 in
set_option maxHeartbeats 8000000 in
theorem neededM_any (vars : Int) (A : Option Addr) (c : Nat) (gs : List Gt) (w : World) (hx : GtAt w A gs) (hq : circB vars gs = true) :
    Calls Try.prog 26 #[.int .i64 vars, .slice A gs.length c] w fun e w' => ∃ B d, e = .returned (.tuple #[.slice B (needL gs).length d, .bool true]) ∧ Below w.heap.size w w' := by
  obtain ⟨-, hv, hp, hl, hok⟩ := circ_vars hq
  have hc := isCircuit_any vars A c gs w hx (by omega)
  rw [hq] at hc
  have hf := Lib.hid (fun W (h : Below w.heap.size w W) => needed_any A c gs W (hx.grow h) hok hp (by omega) (by omega))
  replace hc := Lib.hid hc
  clear hx hq hok
  go_enter Try.func26, Try.ntmps26
  go_wp2_with fail
  refine hc.out.mono ?_
  rintro e w1 ⟨rfl, hb1⟩
  have hf2 := Lib.hid (hf.out _ hb1)
  replace hb1 := Lib.hid hb1
  clear hf hc
  go_wp2_with fail
  refine hf2.out.mono ?_
  rintro e w2 ⟨v, rfl, S2⟩
  obtain ⟨B, d, rfl⟩ := own_slice (S2.own (i := 0) rfl)
  have hB := Lib.hid (btr hb1.out S2.below)
  clear hf2 hb1 S2
  go_wp2_with fail
  go_ret2
  exact ⟨_, _, rfl, hB.out⟩
end Go.Proofs.Ytkhopkonddgicaa

/- Contract: a variable put into a circuit, in the program. -/
namespace Go.Proofs.Ytkhopkonddgicaa
open Go.RowKit

/-- The first gates with the variable put. -/
def restT (v : Int) (val : Bool) (gs : List Gt) (q : Nat) : List Gt := (gs.take q).map (restGt v val) ++ gs.drop q
theorem restT_zero (v : Int) (val : Bool) (gs : List Gt) : restT v val gs 0 = gs := by simp [restT]
theorem restT_all (v : Int) (val : Bool) (gs : List Gt) : restT v val gs gs.length = restG v val gs := by simp [restT, restG]
theorem restT_len (v : Int) (val : Bool) (gs : List Gt) (q : Nat) : (restT v val gs q).length = gs.length := by simp [restT]; omega
theorem restT_flat {v : Int} {val : Bool} {gs : List Gt} {q : Nat} (h : q < gs.length) : (restT v val gs q).flatMap gtEnc = ((gs.take q).map (restGt v val)).flatMap gtEnc ++ (gtEnc gs[q] ++ (gs.drop (q + 1)).flatMap gtEnc) ∧ (((gs.take q).map (restGt v val)).flatMap gtEnc).length = q * 3 := by
  have e1 : gs.drop q = gs[q] :: gs.drop (q + 1) := (List.getElem_cons_drop h).symm
  constructor
  · unfold restT
    rw [e1, List.flatMap_append, List.flatMap_cons]
  · rw [flatG_len, List.length_map, List.length_take]; congr 1; omega
theorem restT_next {v : Int} {val : Bool} {gs : List Gt} {q : Nat} (h : q < gs.length) : (restT v val gs (q + 1)).flatMap gtEnc = ((gs.take q).map (restGt v val)).flatMap gtEnc ++ (gtEnc (restGt v val gs[q]) ++ (gs.drop (q + 1)).flatMap gtEnc) := by
  unfold restT
  rw [List.take_succ_eq_append_getElem h, List.map_append, List.append_assoc, List.flatMap_append, List.flatMap_append]
  simp
theorem restT_at {v : Int} {val : Bool} {gs : List Gt} {q : Nat} (h : q < gs.length) : ((restT v val gs q).flatMap gtEnc)[q * 3]? = some (.int .i64 gs[q].k) ∧ ((restT v val gs q).flatMap gtEnc)[q * 3 + 1]? = some (.int .i64 gs[q].a) ∧ ((restT v val gs q).flatMap gtEnc)[q * 3 + 2]? = some (.int .i64 gs[q].b) := by
  obtain ⟨e1, e2⟩ := restT_flat (v := v) (val := val) h
  rw [e1]
  refine ⟨?_, ?_, ?_⟩
  · rw [List.getElem?_append_right (by omega), e2, Nat.sub_self]; rfl
  · rw [List.getElem?_append_right (by omega), e2, Nat.add_sub_cancel_left]; rfl
  · rw [List.getElem?_append_right (by omega), e2, Nat.add_sub_cancel_left]; rfl
theorem restT_set {v : Int} {val : Bool} {gs : List Gt} {q : Nat} (h : q < gs.length) (hk : gs[q].k = 1) (ha : gs[q].a = v) : ((((restT v val gs q).flatMap gtEnc).set (q * 3) (.int .i64 (if val then 2 else 3))).set (q * 3 + 1) (.int .i64 0)).set (q * 3 + 2) (.int .i64 0) = (restT v val gs (q + 1)).flatMap gtEnc := by
  obtain ⟨e1, e2⟩ := restT_flat (v := v) (val := val) h
  rw [restT_next h, e1, show restGt v val gs[q] = ⟨if val then 2 else 3, 0, 0⟩ from if_pos ⟨hk, ha⟩]
  generalize ((gs.take q).map (restGt v val)).flatMap gtEnc = X at e2 ⊢
  rw [List.set_append_right _ _ (by omega), e2, Nat.sub_self, List.set_append_right _ _ (by omega), e2, Nat.add_sub_cancel_left, List.set_append_right _ _ (by omega), e2, Nat.add_sub_cancel_left]
  rfl
theorem restT_same {v : Int} {val : Bool} {gs : List Gt} {q : Nat} (h : q < gs.length) (hn : ¬ (gs[q].k = 1 ∧ gs[q].a = v)) : (restT v val gs q).flatMap gtEnc = (restT v val gs (q + 1)).flatMap gtEnc := by
  rw [restT_next h, (restT_flat h).1, show restGt v val gs[q] = gs[q] from if_neg hn]

set_option maxRecDepth 100000 in
set_option maxHeartbeats 8000000 in
theorem restrict_any (vars v : Int) (val : Bool) (A : Option Addr) (c : Nat) (gs : List Gt) (w : World) (hx : GtAt w A gs) (hl : gs.length ≤ 1000) :
    Calls Try.prog 31 #[.int .i64 vars, .slice A gs.length c, .int .i64 v, .bool val] w (GOut w (circB vars gs && inB v 1 vars) (restG v val gs)) := by
  have hc := isCircuit_any vars A c gs w hx (by omega)
  cases hq : circB vars gs
  · rw [hq] at hc
    rw [Bool.false_and]
    replace hc := Lib.hid hc
    clear hx hq
    go_enter Try.func31, Try.ntmps31
    go_wp2_with fail
    refine hc.out.mono ?_
    rintro e w1 ⟨rfl, hb1⟩
    replace hb1 := Lib.hid hb1
    go_wp2_with fail
    go_ret2
    exact GOut.no hb1.out
  · rw [hq] at hc
    rw [Bool.true_and]
    obtain ⟨-, hv, hp, -, hok⟩ := circ_vars hq
    replace hc := Lib.hid hc
    cases hvv : inB v 1 vars
    · have hvr := Lib.hid (fun W => isVarG hvv W)
      clear hx hq hok hvv
      go_enter Try.func31, Try.ntmps31
      go_wp2_with fail
      refine hc.out.mono ?_
      rintro e w1 ⟨rfl, hb1⟩
      replace hb1 := Lib.hid hb1
      go_wp2_with fail
      refine (hvr.out _).mono ?_
      rintro e w2 ⟨rfl, hb2⟩
      replace hb2 := Lib.hid (btr hb1.out hb2)
      go_wp2_with fail
      go_ret2
      exact GOut.no hb2.out
    · have hvr := Lib.hid (fun W => isVarG hvv W)
      have hf := Lib.hid (fun W (h : Below w.heap.size w W) => cloneG_any A c gs W (hx.grow h) hp hl)
      clear hx hq hok hvv
      cases val
      · go_enter Try.func31, Try.ntmps31
        go_wp2_with fail
        refine hc.out.mono ?_
        rintro e w1 ⟨rfl, hb1⟩
        replace hb1 := Lib.hid hb1
        clear hc
        go_wp2_with fail
        refine (hvr.out _).mono ?_
        rintro e w2 ⟨rfl, hb2⟩
        replace hb1 := Lib.hid (btr hb1.out hb2)
        have hf2 := Lib.hid (hf.out _ hb1.out)
        clear hb2 hvr hf
        go_wp2_with fail
        refine hf2.out.mono ?_
        rintro e w3 ⟨v0, rfl, S2⟩
        have S3 := (Sp.of_below hb1.out).seq S2
        obtain ⟨gb, cap, cur, rfl, -⟩ := own_block (S3.own (i := 0) rfl) hp
        have S4 : Hid (Sp w w3 [Own 41 3 (.slice (some ⟨gb, 0, none⟩) gs.length cap) gs.length ((restT v false gs 0).flatMap gtEnc)]) := by unfold Hid; rw [restT_zero]; exact S3
        clear hf2 hb1 S2 S3
        go_wp2_with fail
        go_loopw [29] (fun i wr => ∃ q : Nat, q ≤ gs.length ∧ i = .int .i64 (q : Int) ∧ Hid (Sp w wr [Own 41 3 (.slice (some ⟨gb, 0, none⟩) gs.length cap) gs.length ((restT v false gs q).flatMap gtEnc)])) (fun i _ => gs.length - (intOf i).toNat)
        case atStart => exact ⟨0, Nat.zero_le _, rfl, S4⟩
        case round =>
          obtain ⟨q, hqn, rfl, hS⟩ := hrel
          clear S4
          by_cases hlt : q < gs.length
          · have hqi : (q : Int) < gs.length := by omega
            obtain ⟨g', cap', cur', e', -, hh', -, -, -, ht'⟩ := own_block (hS.out.own (i := 0) rfl) hp
            cases e'
            obtain ⟨m0, -⟩ := own_at hh' ht' (o := q * 3) (by omega)
            obtain ⟨m1, -⟩ := own_at hh' ht' (o := q * 3 + 1) (by omega)
            obtain ⟨m2, -⟩ := own_at hh' ht' (o := q * 3 + 2) (by omega)
            have r0 := (restT_at (v := v) (val := false) hlt).1
            have r1 := (restT_at (v := v) (val := false) hlt).2.1
            have r2 := (restT_at (v := v) (val := false) hlt).2.2
            rw [r0] at m0
            rw [r1] at m1
            rw [r2] at m2
            have hset := fun hk ha => restT_set (v := v) (val := false) hlt hk ha
            have hsame := fun hn => restT_same (v := v) (val := false) hlt hn
            generalize gs[q] = g at m0 m1 m2 r0 r1 r2 hset hsame
            obtain ⟨gk, ga, gc⟩ := g
            dsimp only at m0 m1 m2 r0 r1 r2 hset hsame
            clear hh' ht'
            by_cases hk : gk = 1
            · subst hk
              by_cases ha : ga = v
              · subst ha
                have S5 := hS.out.alloc_box #[.int .i64 1, .int .i64 ga, .int .i64 gc] 41
                have j0 := S5.cell (i := 0) rfl (o := 0) rfl
                have j1 := S5.cell (i := 0) rfl (o := 1) rfl
                have j2 := S5.cell (i := 0) rfl (o := 2) rfl
                obtain ⟨g', cap', cur', e', -, hh', -, -, -, ht'⟩ := own_block (S5.own (i := 1) rfl) hp
                cases e'
                obtain ⟨t0, u0⟩ := own_at hh' ht' (o := q * 3) (by omega)
                obtain ⟨t1, u1⟩ := own_at hh' ht' (o := q * 3 + 1) (by omega)
                obtain ⟨t2, u2⟩ := own_at hh' ht' (o := q * 3 + 2) (by omega)
                rw [r0] at t0
                rw [r1] at t1
                rw [r2] at t2
                have S6 := ((S5.own_put (i := 1) rfl (o := q * 3) (.int .i64 3) (by omega)).own_put (i := 1) rfl (o := q * 3 + 1) (.int .i64 0) (by omega)).own_put (i := 1) rfl (o := q * 3 + 2) (.int .i64 0) (by omega)
                have hset2 := hset rfl rfl
                simp only [if_true, Bool.false_eq_true, if_false] at hset2
                have S7 := S6.pick [1] rfl
                rw [hset2] at S7
                replace S7 := Lib.hid S7
                have ev : (ga == ga) = true := by simp
                clear hS hh' ht' S5 S6 hset hset2 hsame r0 r1 r2
                go_wp2_with fail
                go_roundw
                case rel => exact ⟨q + 1, by omega, by first | rfl | simp, S7⟩
                case measure => simp [intOf]; omega
              · have S5 := hS.out.alloc_box #[.int .i64 1, .int .i64 ga, .int .i64 gc] 41
                have j0 := S5.cell (i := 0) rfl (o := 0) rfl
                have j1 := S5.cell (i := 0) rfl (o := 1) rfl
                have j2 := S5.cell (i := 0) rfl (o := 2) rfl
                have S7 := S5.pick [1] rfl
                rw [hsame (fun h => ha h.2)] at S7
                replace S7 := Lib.hid S7
                have ev : (ga == v) = false := beq_eq_false_iff_ne.2 ha
                clear hS S5 hset hsame r0 r1 r2 ha
                go_wp2_with fail
                go_roundw
                case rel => exact ⟨q + 1, by omega, by first | rfl | simp, S7⟩
                case measure => simp [intOf]; omega
            · have S5 := hS.out.alloc_box #[.int .i64 gk, .int .i64 ga, .int .i64 gc] 41
              have j0 := S5.cell (i := 0) rfl (o := 0) rfl
              have j1 := S5.cell (i := 0) rfl (o := 1) rfl
              have j2 := S5.cell (i := 0) rfl (o := 2) rfl
              have S7 := S5.pick [1] rfl
              rw [hsame (fun h => hk h.1)] at S7
              replace S7 := Lib.hid S7
              have ev : (gk == 1) = false := beq_eq_false_iff_ne.2 hk
              clear hS S5 hset hsame r0 r1 r2 hk
              go_wp2_with fail
              go_roundw
              case rel => exact ⟨q + 1, by omega, by first | rfl | simp, S7⟩
              case measure => simp [intOf]; omega
          · obtain rfl : q = gs.length := by omega
            rw [restT_all] at hS
            have S6 : Hid (Sp w wr [Own 41 3 (.slice (some ⟨gb, 0, none⟩) gs.length cap) (restG v false gs).length ((restG v false gs).flatMap gtEnc)]) := by unfold Hid; rw [restG_len]; exact hS.out
            clear hS
            go_wp2_with fail
            go_ret2
            exact GOut.yes S6.out
      · go_enter Try.func31, Try.ntmps31
        go_wp2_with fail
        refine hc.out.mono ?_
        rintro e w1 ⟨rfl, hb1⟩
        replace hb1 := Lib.hid hb1
        clear hc
        go_wp2_with fail
        refine (hvr.out _).mono ?_
        rintro e w2 ⟨rfl, hb2⟩
        replace hb1 := Lib.hid (btr hb1.out hb2)
        have hf2 := Lib.hid (hf.out _ hb1.out)
        clear hb2 hvr hf
        go_wp2_with fail
        refine hf2.out.mono ?_
        rintro e w3 ⟨v0, rfl, S2⟩
        have S3 := (Sp.of_below hb1.out).seq S2
        obtain ⟨gb, cap, cur, rfl, -⟩ := own_block (S3.own (i := 0) rfl) hp
        have S4 : Hid (Sp w w3 [Own 41 3 (.slice (some ⟨gb, 0, none⟩) gs.length cap) gs.length ((restT v true gs 0).flatMap gtEnc)]) := by unfold Hid; rw [restT_zero]; exact S3
        clear hf2 hb1 S2 S3
        go_wp2_with fail
        go_loopw [29] (fun i wr => ∃ q : Nat, q ≤ gs.length ∧ i = .int .i64 (q : Int) ∧ Hid (Sp w wr [Own 41 3 (.slice (some ⟨gb, 0, none⟩) gs.length cap) gs.length ((restT v true gs q).flatMap gtEnc)])) (fun i _ => gs.length - (intOf i).toNat)
        case atStart => exact ⟨0, Nat.zero_le _, rfl, S4⟩
        case round =>
          obtain ⟨q, hqn, rfl, hS⟩ := hrel
          clear S4
          by_cases hlt : q < gs.length
          · have hqi : (q : Int) < gs.length := by omega
            obtain ⟨g', cap', cur', e', -, hh', -, -, -, ht'⟩ := own_block (hS.out.own (i := 0) rfl) hp
            cases e'
            obtain ⟨m0, -⟩ := own_at hh' ht' (o := q * 3) (by omega)
            obtain ⟨m1, -⟩ := own_at hh' ht' (o := q * 3 + 1) (by omega)
            obtain ⟨m2, -⟩ := own_at hh' ht' (o := q * 3 + 2) (by omega)
            have r0 := (restT_at (v := v) (val := true) hlt).1
            have r1 := (restT_at (v := v) (val := true) hlt).2.1
            have r2 := (restT_at (v := v) (val := true) hlt).2.2
            rw [r0] at m0
            rw [r1] at m1
            rw [r2] at m2
            have hset := fun hk ha => restT_set (v := v) (val := true) hlt hk ha
            have hsame := fun hn => restT_same (v := v) (val := true) hlt hn
            generalize gs[q] = g at m0 m1 m2 r0 r1 r2 hset hsame
            obtain ⟨gk, ga, gc⟩ := g
            dsimp only at m0 m1 m2 r0 r1 r2 hset hsame
            clear hh' ht'
            by_cases hk : gk = 1
            · subst hk
              by_cases ha : ga = v
              · subst ha
                have S5 := hS.out.alloc_box #[.int .i64 1, .int .i64 ga, .int .i64 gc] 41
                have j0 := S5.cell (i := 0) rfl (o := 0) rfl
                have j1 := S5.cell (i := 0) rfl (o := 1) rfl
                have j2 := S5.cell (i := 0) rfl (o := 2) rfl
                obtain ⟨g', cap', cur', e', -, hh', -, -, -, ht'⟩ := own_block (S5.own (i := 1) rfl) hp
                cases e'
                obtain ⟨t0, u0⟩ := own_at hh' ht' (o := q * 3) (by omega)
                obtain ⟨t1, u1⟩ := own_at hh' ht' (o := q * 3 + 1) (by omega)
                obtain ⟨t2, u2⟩ := own_at hh' ht' (o := q * 3 + 2) (by omega)
                rw [r0] at t0
                rw [r1] at t1
                rw [r2] at t2
                have S6 := ((S5.own_put (i := 1) rfl (o := q * 3) (.int .i64 2) (by omega)).own_put (i := 1) rfl (o := q * 3 + 1) (.int .i64 0) (by omega)).own_put (i := 1) rfl (o := q * 3 + 2) (.int .i64 0) (by omega)
                have hset2 := hset rfl rfl
                simp only [if_true, Bool.false_eq_true, if_false] at hset2
                have S7 := S6.pick [1] rfl
                rw [hset2] at S7
                replace S7 := Lib.hid S7
                have ev : (ga == ga) = true := by simp
                clear hS hh' ht' S5 S6 hset hset2 hsame r0 r1 r2
                go_wp2_with fail
                go_roundw
                case rel => exact ⟨q + 1, by omega, by first | rfl | simp, S7⟩
                case measure => simp [intOf]; omega
              · have S5 := hS.out.alloc_box #[.int .i64 1, .int .i64 ga, .int .i64 gc] 41
                have j0 := S5.cell (i := 0) rfl (o := 0) rfl
                have j1 := S5.cell (i := 0) rfl (o := 1) rfl
                have j2 := S5.cell (i := 0) rfl (o := 2) rfl
                have S7 := S5.pick [1] rfl
                rw [hsame (fun h => ha h.2)] at S7
                replace S7 := Lib.hid S7
                have ev : (ga == v) = false := beq_eq_false_iff_ne.2 ha
                clear hS S5 hset hsame r0 r1 r2 ha
                go_wp2_with fail
                go_roundw
                case rel => exact ⟨q + 1, by omega, by first | rfl | simp, S7⟩
                case measure => simp [intOf]; omega
            · have S5 := hS.out.alloc_box #[.int .i64 gk, .int .i64 ga, .int .i64 gc] 41
              have j0 := S5.cell (i := 0) rfl (o := 0) rfl
              have j1 := S5.cell (i := 0) rfl (o := 1) rfl
              have j2 := S5.cell (i := 0) rfl (o := 2) rfl
              have S7 := S5.pick [1] rfl
              rw [hsame (fun h => hk h.1)] at S7
              replace S7 := Lib.hid S7
              have ev : (gk == 1) = false := beq_eq_false_iff_ne.2 hk
              clear hS S5 hset hsame r0 r1 r2 hk
              go_wp2_with fail
              go_roundw
              case rel => exact ⟨q + 1, by omega, by first | rfl | simp, S7⟩
              case measure => simp [intOf]; omega
          · obtain rfl : q = gs.length := by omega
            rw [restT_all] at hS
            have S6 : Hid (Sp w wr [Own 41 3 (.slice (some ⟨gb, 0, none⟩) gs.length cap) (restG v true gs).length ((restG v true gs).flatMap gtEnc)]) := by unfold Hid; rw [restG_len]; exact hS.out
            clear hS
            go_wp2_with fail
            go_ret2
            exact GOut.yes S6.out
end Go.Proofs.Ytkhopkonddgicaa

/- Contract: two circuits joined, in the program. Printed by gen_join.py. -/
namespace Go.Proofs.Ytkhopkonddgicaa
open Go.RowKit

def joinOk (vars kind : Int) (xs ys : List Gt) : Bool := circB vars xs && (circB vars ys && ((decide (kind = 5) || decide (kind = 6)) && decide (xs.length + ys.length < 200)))

theorem joinLook_any (b n k : Nat) (hn : n ≤ 1000000) (hk : k ≤ 1000000) (w : World) (h0 : w.cell? ⟨b, 0, none⟩ = some (.int .i64 n)) :
    Calls Try.prog 79 #[.int .i64 k, .pointer (some ⟨b, 0, none⟩)] w fun e w' => e = .returned (.int .i64 (k + n : Nat)) ∧ Below w.heap.size w w' := by
  have hw : IntKind.i64.wrap ((k : Int) + n) = ((k + n : Nat) : Int) := by rw [show (k : Int) + n = ((k + n : Nat) : Int) by omega]; exact IntWalk.i64_in _ (by omega)
  rw [Int.natCast_add] at hw ⊢
  go_enter Try.func79, Try.ntmps79
  go_wp2_with fail
  go_ret
  exact ⟨rfl, bb _⟩

/-- The first gates joined. -/
def joinT (xs ys : List Gt) (q : Nat) : List Gt := xs ++ (ys.take q).map (mvG fun k => k + xs.length)
theorem joinT_zero (xs ys : List Gt) : joinT xs ys 0 = xs := by simp [joinT]
theorem joinT_next {xs ys : List Gt} {q : Nat} (h : q < ys.length) : joinT xs ys (q + 1) = joinT xs ys q ++ [mvG (fun k => k + xs.length) ys[q]] := by
  unfold joinT
  rw [List.take_succ_eq_append_getElem h, List.map_append, List.append_assoc]; rfl
theorem joinT_all (kind : Int) (xs ys : List Gt) : joinG kind xs ys = joinT xs ys ys.length ++ [⟨kind, ((xs.length - 1 : Nat) : Int), ((xs.length + ys.length - 1 : Nat) : Int)⟩] := by
  unfold joinG joinT
  rw [List.take_length]

set_option maxRecDepth 100000 in
set_option maxHeartbeats 16000000 in
theorem join_any (vars kind : Int) (A A' : Option Addr) (c c' : Nat) (xs ys : List Gt) (w : World) (hx : GtAt w A xs) (hy : GtAt w A' ys) (hl : xs.length ≤ 1000) (hl2 : ys.length ≤ 1000) :
    Calls Try.prog 36 #[.int .i64 vars, .int .i64 kind, .slice A xs.length c, .slice A' ys.length c'] w (GOut w (joinOk vars kind xs ys) (joinG kind xs ys)) := by
  obtain ⟨i0, hi0, hz0, hz1, hz2⟩ := info_parts infoGt
  have S0 := (Sp.start w).alloc_box #[.int .i64 (xs.length : Nat)] 3
  have c0 := S0.cell (i := 0) rfl (o := 0) rfl
  have hc := isCircuit_any vars A c xs _ (hx.grow S0.below) (by omega)
  have hd := fun W (h : Below w.heap.size w W) => isCircuit_any vars A' c' ys W (hy.grow h) (by omega)
  have hb0 := (S0.box (i := 0) rfl).2.1
  have eg : Enter1 79 := enters_of Try.func79 (by kernel_rfl) rfl
  replace eg := Lib.hid eg
  unfold joinOk
  have hX := Lib.hid hx
  have hY := Lib.hid hy
  clear hx hy
  cases hq : circB vars xs
  · rw [hq] at hc
    rw [Bool.false_and]
    replace hc := Lib.hid hc
    replace S0 := Lib.hid S0
    clear hq hd
    go_enter Try.func36, Try.ntmps36
    go_wp2_with fail
    refine hc.out.mono ?_
    rintro e w1 ⟨rfl, hb1⟩
    have k0 := (hb1.cell (p := ⟨w.heap.size, 0, none⟩) hb0).trans c0
    have S1 := Lib.hid (S0.out.grow hb1)
    clear hb1 hc
    go_wp2_with fail
    go_ret2
    exact GOut.no S1.out.below
  · rw [hq] at hc
    rw [Bool.true_and]
    obtain ⟨-, hv, hp, -, hok⟩ := circ_vars hq
    replace hc := Lib.hid hc
    replace S0 := Lib.hid S0
    replace hok := Lib.hid hok
    clear hq
    cases hr : circB vars ys
    · rw [hr] at hd
      rw [Bool.false_and]
      replace hd := Lib.hid hd
      clear hr
      go_enter Try.func36, Try.ntmps36
      go_wp2_with fail
      refine hc.out.mono ?_
      rintro e w1 ⟨rfl, hb1⟩
      have k0 := (hb1.cell (p := ⟨w.heap.size, 0, none⟩) hb0).trans c0
      have S1 := Lib.hid (S0.out.grow hb1)
      clear hb1 hc
      have hd2 := Lib.hid (hd.out _ S1.out.below)
      go_wp2_with fail
      refine hd2.out.mono ?_
      rintro e w2 ⟨rfl, hb2⟩
      have k1 := (hb2.cell (p := ⟨w.heap.size, 0, none⟩) (S1.out.box (i := 0) rfl).2.1).trans k0
      have S2 := Lib.hid (S1.out.grow hb2)
      clear hb2 hd hd2 S1
      go_wp2_with fail
      go_ret2
      exact GOut.no S2.out.below
    · rw [hr] at hd
      rw [Bool.true_and]
      obtain ⟨-, -, hp2, -, hok2⟩ := circ_vars hr
      replace hd := Lib.hid hd
      replace hok2 := Lib.hid hok2
      clear hr
      have hw1 : IntKind.i64.wrap ((xs.length : Int) + ys.length) = ((xs.length + ys.length : Nat) : Int) := by rw [show (xs.length : Int) + ys.length = ((xs.length + ys.length : Nat) : Int) by omega]; exact IntWalk.i64_in _ (by omega)
      have hw2 : IntKind.i64.wrap (((xs.length + ys.length : Nat) : Int) + 1) = ((xs.length + ys.length + 1 : Nat) : Int) := by rw [show ((xs.length + ys.length : Nat) : Int) + 1 = ((xs.length + ys.length + 1 : Nat) : Int) by omega]; exact IntWalk.i64_in _ (by omega)
      by_cases hkk : kind = 5 ∨ kind = 6
      · by_cases hlen : xs.length + ys.length < 200
        · have hjj : ((decide (kind = 5) || decide (kind = 6)) && decide (xs.length + ys.length < 200)) = true := by rcases hkk with h | h <;> simp [h, hlen]
          rw [hjj]
          clear hjj
          have hgt : ¬ (200 : Int) < ((xs.length + ys.length + 1 : Nat) : Int) := by omega
          have hcl := Lib.hid (fun W (h : Below w.heap.size w W) => cloneG_any A c xs W (hX.out.grow h) hp hl)
          have hJA := joinT_all kind xs ys
          rw [hJA]
          clear hJA
          rcases hkk with rfl | rfl
          · have ekk : ((5 : Int) == 5) = true := rfl
            go_enter Try.func36, Try.ntmps36
            go_wp2_with fail
            refine hc.out.mono ?_
            rintro e w1 ⟨rfl, hb1⟩
            have k0 := (hb1.cell (p := ⟨w.heap.size, 0, none⟩) hb0).trans c0
            have S1 := Lib.hid (S0.out.grow hb1)
            clear hb1 hc
            have hd2 := Lib.hid (hd.out _ S1.out.below)
            go_wp2_with fail
            refine hd2.out.mono ?_
            rintro e w2 ⟨rfl, hb2⟩
            have k1 := (hb2.cell (p := ⟨w.heap.size, 0, none⟩) (S1.out.box (i := 0) rfl).2.1).trans k0
            have S2 := Lib.hid (S1.out.grow hb2)
            clear hb2 hd hd2 S1
            have hcl2 := Lib.hid (hcl.out _ S2.out.below)
            clear hcl
            go_wp2_with fail
            refine hcl2.out.mono ?_
            rintro e w3 ⟨ov0, rfl, T3⟩
            have S3 := Lib.hid (S2.out.seq T3)
            have k2 := S3.out.cell (i := 1) rfl (o := 0) rfl
            clear hcl2 S2 T3
            have S4 : Hid (Sp w w3 [Own 41 3 ov0 xs.length ((joinT xs ys 0).flatMap gtEnc), Box w.heap.size 3 #[.int .i64 (xs.length : Nat)]]) := by
              unfold Hid; rw [joinT_zero]; exact S3.out
            clear S3
            go_wp2_with fail
            go_loopw [46, 11] (fun i o wr => ∃ (q t : Nat) (ov : Value), q ≤ ys.length ∧ t = xs.length + q ∧ i = .int .i64 (q : Int) ∧ o = ov ∧ Hid (Sp w wr [Own 41 3 ov t ((joinT xs ys q).flatMap gtEnc), Box w.heap.size 3 #[.int .i64 (xs.length : Nat)]])) (fun i _ _ => ys.length - (intOf i).toNat)
            case atStart => exact ⟨0, xs.length, _, Nat.zero_le _, rfl, rfl, rfl, S4⟩
            case round =>
              obtain ⟨q, t, ov, hqn, ht, rfl, rfl, hS⟩ := hrel
              clear S4
              obtain ⟨aO, cO, rfl⟩ := own_slice (hS.out.own (i := 0) rfl)
              by_cases hlt : q < ys.length
              · have hqi : (q : Int) < ys.length := by omega
                have hY2 := hY.out.grow hS.out.below
                obtain ⟨bg, og, e, m0, m1, m2⟩ := hY2.at_ q hlt
                cases e
                have hgx := gtB_iff.1 (hok2.out q hlt)
                have hlt2 := ins_lt (hok2.out q hlt)
                have htk := joinT_next (xs := xs) hlt
                generalize ys[q] = g at m0 m1 m2 hgx hlt2 htk
                have S3 := hS.out.alloc_box #[.int .i64 g.k, .int .i64 g.a, .int .i64 g.b] 41
                have d0 := S3.cell (i := 0) rfl (o := 0) rfl
                have d1 := S3.cell (i := 0) rfl (o := 1) rfl
                have d2 := S3.cell (i := 0) rfl (o := 2) rfl
                have d3 := S3.cell (i := 2) rfl (o := 0) rfl
                have hmv := Lib.hid (moved_any (cb := #[.pointer (some ⟨w.heap.size, 0, none⟩)]) eg.out (fun k => k + xs.length) g (fun k hk => by have := hlt2 k hk; omega) (by omega) (by omega) _ (fun k hk W hW => joinLook_any w.heap.size xs.length k (by omega) (by have := hlt2 k hk; omega) W ((hW.cell (p := ⟨w.heap.size, 0, none⟩) (S3.box (i := 2) rfl).2.1).trans d3)))
                generalize mvG (fun k => k + xs.length) g = z at hmv htk
                obtain ⟨gk, ga, gb⟩ := g
                obtain ⟨zk, za, zb⟩ := z
                replace htk := Lib.hid htk
                dsimp only at m0 m1 m2 d0 d1 d2
                replace S3 := Lib.hid S3
                have htl : t ≤ 1000 := by omega
                replace ht := Lib.hid ht
                clear hgx hlt2 hY2 hS
                go_wp2_with fail
                refine hmv.out.mono ?_
                rintro e w4 ⟨rfl, hb2⟩
                have S5 := Lib.hid ((S3.out.grow hb2).pick [1, 1] rfl)
                clear hmv S3 hb2 m0 m1 m2 d0 d1 d2 d3
                have S3 := S5.out.alloc_box #[.int .i64 zk, .int .i64 za, .int .i64 zb] 41
                (try simp only [World.size_setCell] at S3)
                have kG0 := S3.cell (i := 0) rfl (o := 0) rfl
                have kG1 := S3.cell (i := 0) rfl (o := 1) rfl
                have kG2 := S3.cell (i := 0) rfl (o := 2) rfl
                replace S3 := Lib.hid S3
                clear S5
                go_wp2_with (at_builtin; refine wpList_append_src rfl _ _ rfl Try.underlying28 hi0 hz0 hz1 hz2 rfl (by decide) _ t _ rfl (S3.out.own (i := 1) rfl) _ 1 1 [.int .i64 zk, .int .i64 za, .int .i64 zb] rfl (Src.threeG kG0 kG1 kG2) (by simp [Value.oneCell']) ?c3 ?c4 ?_)
                case c3 => unfold maxLen; omega
                case c4 => omega
                intro vE wE hownE hgE hatE
                have S4 := (S3.out.own_push (i := 1) rfl (bb _) hownE hgE (by simpa using hatE)).tail
                simp only [List.set_cons_zero, List.set_cons_succ] at S4
                obtain ⟨aE, cE, rfl⟩ := own_slice hownE
                have S5 := Lib.hid S4
                clear S3 S4 kG0 kG1 kG2 hownE hgE hatE
                go_wp2_with fail
                go_roundw
                case rel =>
                  refine ⟨q + 1, t + 1, _, by omega, by have := ht.out; omega, by first | rfl | simp, rfl, ?_⟩
                  unfold Hid
                  rw [htk.out, flat_snoc]
                  exact S5.out
                case measure => simp [intOf]; omega
              · obtain rfl : q = ys.length := by omega
                have d3 := hS.out.cell (i := 1) rfl (o := 0) rfl
                have S5 := Lib.hid (hS.out.pick [0] rfl)
                have hw3 : IntKind.i64.wrap ((xs.length : Int) - 1) = ((xs.length - 1 : Nat) : Int) := by rw [show (xs.length : Int) - 1 = ((xs.length - 1 : Nat) : Int) by omega]; exact IntWalk.i64_in _ (by omega)
                have hw4 : IntKind.i64.wrap ((t : Int) - 1) = ((xs.length + ys.length - 1 : Nat) : Int) := by rw [show (t : Int) - 1 = ((xs.length + ys.length - 1 : Nat) : Int) by omega]; exact IntWalk.i64_in _ (by omega)
                have hJl : Hid ((joinT xs ys ys.length ++ [(⟨5, ((xs.length - 1 : Nat) : Int), ((xs.length + ys.length - 1 : Nat) : Int)⟩ : Gt)]).length = t + 1) := by unfold Hid; simp [joinT]; omega
                obtain ⟨a1, ha1⟩ : ∃ a : Int, ((xs.length - 1 : Nat) : Int) = a := ⟨_, rfl⟩
                obtain ⟨a2, ha2⟩ : ∃ a : Int, ((xs.length + ys.length - 1 : Nat) : Int) = a := ⟨_, rfl⟩
                rw [ha1] at hw3 hJl
                rw [ha2] at hw4 hJl
                replace ha1 := Lib.hid ha1
                replace ha2 := Lib.hid ha2
                have htl : t ≤ 1000 := by omega
                replace ht := Lib.hid ht
                clear hS
                have S3 := S5.out.alloc_box #[.int .i64 5, .int .i64 a1, .int .i64 a2] 41
                (try simp only [World.size_setCell] at S3)
                have kG0 := S3.cell (i := 0) rfl (o := 0) rfl
                have kG1 := S3.cell (i := 0) rfl (o := 1) rfl
                have kG2 := S3.cell (i := 0) rfl (o := 2) rfl
                replace S3 := Lib.hid S3
                clear S5
                go_wp2_with (at_builtin; refine wpList_append_src rfl _ _ rfl Try.underlying28 hi0 hz0 hz1 hz2 rfl (by decide) _ t _ rfl (S3.out.own (i := 1) rfl) _ 1 1 [.int .i64 5, .int .i64 a1, .int .i64 a2] rfl (Src.threeG kG0 kG1 kG2) (by simp [Value.oneCell']) ?c3 ?c4 ?_)
                case c3 => unfold maxLen; omega
                case c4 => omega
                intro vE wE hownE hgE hatE
                have S4 := (S3.out.own_push (i := 1) rfl (bb _) hownE hgE (by simpa using hatE)).tail
                simp only [List.set_cons_zero, List.set_cons_succ] at S4
                obtain ⟨aE, cE, rfl⟩ := own_slice hownE
                have S5 := Lib.hid S4
                clear S3 S4 kG0 kG1 kG2 hownE hgE hatE
                go_wp2_with fail
                go_ret2
                refine GOut.yes ?_
                rw [ha1.out, ha2.out, hJl.out, flat_snoc]
                exact S5.out
          · have ekk : ((6 : Int) == 5) = false := rfl
            go_enter Try.func36, Try.ntmps36
            go_wp2_with fail
            refine hc.out.mono ?_
            rintro e w1 ⟨rfl, hb1⟩
            have k0 := (hb1.cell (p := ⟨w.heap.size, 0, none⟩) hb0).trans c0
            have S1 := Lib.hid (S0.out.grow hb1)
            clear hb1 hc
            have hd2 := Lib.hid (hd.out _ S1.out.below)
            go_wp2_with fail
            refine hd2.out.mono ?_
            rintro e w2 ⟨rfl, hb2⟩
            have k1 := (hb2.cell (p := ⟨w.heap.size, 0, none⟩) (S1.out.box (i := 0) rfl).2.1).trans k0
            have S2 := Lib.hid (S1.out.grow hb2)
            clear hb2 hd hd2 S1
            have hcl2 := Lib.hid (hcl.out _ S2.out.below)
            clear hcl
            go_wp2_with fail
            refine hcl2.out.mono ?_
            rintro e w3 ⟨ov0, rfl, T3⟩
            have S3 := Lib.hid (S2.out.seq T3)
            have k2 := S3.out.cell (i := 1) rfl (o := 0) rfl
            clear hcl2 S2 T3
            have S4 : Hid (Sp w w3 [Own 41 3 ov0 xs.length ((joinT xs ys 0).flatMap gtEnc), Box w.heap.size 3 #[.int .i64 (xs.length : Nat)]]) := by
              unfold Hid; rw [joinT_zero]; exact S3.out
            clear S3
            go_wp2_with fail
            go_loopw [46, 11] (fun i o wr => ∃ (q t : Nat) (ov : Value), q ≤ ys.length ∧ t = xs.length + q ∧ i = .int .i64 (q : Int) ∧ o = ov ∧ Hid (Sp w wr [Own 41 3 ov t ((joinT xs ys q).flatMap gtEnc), Box w.heap.size 3 #[.int .i64 (xs.length : Nat)]])) (fun i _ _ => ys.length - (intOf i).toNat)
            case atStart => exact ⟨0, xs.length, _, Nat.zero_le _, rfl, rfl, rfl, S4⟩
            case round =>
              obtain ⟨q, t, ov, hqn, ht, rfl, rfl, hS⟩ := hrel
              clear S4
              obtain ⟨aO, cO, rfl⟩ := own_slice (hS.out.own (i := 0) rfl)
              by_cases hlt : q < ys.length
              · have hqi : (q : Int) < ys.length := by omega
                have hY2 := hY.out.grow hS.out.below
                obtain ⟨bg, og, e, m0, m1, m2⟩ := hY2.at_ q hlt
                cases e
                have hgx := gtB_iff.1 (hok2.out q hlt)
                have hlt2 := ins_lt (hok2.out q hlt)
                have htk := joinT_next (xs := xs) hlt
                generalize ys[q] = g at m0 m1 m2 hgx hlt2 htk
                have S3 := hS.out.alloc_box #[.int .i64 g.k, .int .i64 g.a, .int .i64 g.b] 41
                have d0 := S3.cell (i := 0) rfl (o := 0) rfl
                have d1 := S3.cell (i := 0) rfl (o := 1) rfl
                have d2 := S3.cell (i := 0) rfl (o := 2) rfl
                have d3 := S3.cell (i := 2) rfl (o := 0) rfl
                have hmv := Lib.hid (moved_any (cb := #[.pointer (some ⟨w.heap.size, 0, none⟩)]) eg.out (fun k => k + xs.length) g (fun k hk => by have := hlt2 k hk; omega) (by omega) (by omega) _ (fun k hk W hW => joinLook_any w.heap.size xs.length k (by omega) (by have := hlt2 k hk; omega) W ((hW.cell (p := ⟨w.heap.size, 0, none⟩) (S3.box (i := 2) rfl).2.1).trans d3)))
                generalize mvG (fun k => k + xs.length) g = z at hmv htk
                obtain ⟨gk, ga, gb⟩ := g
                obtain ⟨zk, za, zb⟩ := z
                replace htk := Lib.hid htk
                dsimp only at m0 m1 m2 d0 d1 d2
                replace S3 := Lib.hid S3
                have htl : t ≤ 1000 := by omega
                replace ht := Lib.hid ht
                clear hgx hlt2 hY2 hS
                go_wp2_with fail
                refine hmv.out.mono ?_
                rintro e w4 ⟨rfl, hb2⟩
                have S5 := Lib.hid ((S3.out.grow hb2).pick [1, 1] rfl)
                clear hmv S3 hb2 m0 m1 m2 d0 d1 d2 d3
                have S3 := S5.out.alloc_box #[.int .i64 zk, .int .i64 za, .int .i64 zb] 41
                (try simp only [World.size_setCell] at S3)
                have kG0 := S3.cell (i := 0) rfl (o := 0) rfl
                have kG1 := S3.cell (i := 0) rfl (o := 1) rfl
                have kG2 := S3.cell (i := 0) rfl (o := 2) rfl
                replace S3 := Lib.hid S3
                clear S5
                go_wp2_with (at_builtin; refine wpList_append_src rfl _ _ rfl Try.underlying28 hi0 hz0 hz1 hz2 rfl (by decide) _ t _ rfl (S3.out.own (i := 1) rfl) _ 1 1 [.int .i64 zk, .int .i64 za, .int .i64 zb] rfl (Src.threeG kG0 kG1 kG2) (by simp [Value.oneCell']) ?c3 ?c4 ?_)
                case c3 => unfold maxLen; omega
                case c4 => omega
                intro vE wE hownE hgE hatE
                have S4 := (S3.out.own_push (i := 1) rfl (bb _) hownE hgE (by simpa using hatE)).tail
                simp only [List.set_cons_zero, List.set_cons_succ] at S4
                obtain ⟨aE, cE, rfl⟩ := own_slice hownE
                have S5 := Lib.hid S4
                clear S3 S4 kG0 kG1 kG2 hownE hgE hatE
                go_wp2_with fail
                go_roundw
                case rel =>
                  refine ⟨q + 1, t + 1, _, by omega, by have := ht.out; omega, by first | rfl | simp, rfl, ?_⟩
                  unfold Hid
                  rw [htk.out, flat_snoc]
                  exact S5.out
                case measure => simp [intOf]; omega
              · obtain rfl : q = ys.length := by omega
                have d3 := hS.out.cell (i := 1) rfl (o := 0) rfl
                have S5 := Lib.hid (hS.out.pick [0] rfl)
                have hw3 : IntKind.i64.wrap ((xs.length : Int) - 1) = ((xs.length - 1 : Nat) : Int) := by rw [show (xs.length : Int) - 1 = ((xs.length - 1 : Nat) : Int) by omega]; exact IntWalk.i64_in _ (by omega)
                have hw4 : IntKind.i64.wrap ((t : Int) - 1) = ((xs.length + ys.length - 1 : Nat) : Int) := by rw [show (t : Int) - 1 = ((xs.length + ys.length - 1 : Nat) : Int) by omega]; exact IntWalk.i64_in _ (by omega)
                have hJl : Hid ((joinT xs ys ys.length ++ [(⟨6, ((xs.length - 1 : Nat) : Int), ((xs.length + ys.length - 1 : Nat) : Int)⟩ : Gt)]).length = t + 1) := by unfold Hid; simp [joinT]; omega
                obtain ⟨a1, ha1⟩ : ∃ a : Int, ((xs.length - 1 : Nat) : Int) = a := ⟨_, rfl⟩
                obtain ⟨a2, ha2⟩ : ∃ a : Int, ((xs.length + ys.length - 1 : Nat) : Int) = a := ⟨_, rfl⟩
                rw [ha1] at hw3 hJl
                rw [ha2] at hw4 hJl
                replace ha1 := Lib.hid ha1
                replace ha2 := Lib.hid ha2
                have htl : t ≤ 1000 := by omega
                replace ht := Lib.hid ht
                clear hS
                have S3 := S5.out.alloc_box #[.int .i64 6, .int .i64 a1, .int .i64 a2] 41
                (try simp only [World.size_setCell] at S3)
                have kG0 := S3.cell (i := 0) rfl (o := 0) rfl
                have kG1 := S3.cell (i := 0) rfl (o := 1) rfl
                have kG2 := S3.cell (i := 0) rfl (o := 2) rfl
                replace S3 := Lib.hid S3
                clear S5
                go_wp2_with (at_builtin; refine wpList_append_src rfl _ _ rfl Try.underlying28 hi0 hz0 hz1 hz2 rfl (by decide) _ t _ rfl (S3.out.own (i := 1) rfl) _ 1 1 [.int .i64 6, .int .i64 a1, .int .i64 a2] rfl (Src.threeG kG0 kG1 kG2) (by simp [Value.oneCell']) ?c3 ?c4 ?_)
                case c3 => unfold maxLen; omega
                case c4 => omega
                intro vE wE hownE hgE hatE
                have S4 := (S3.out.own_push (i := 1) rfl (bb _) hownE hgE (by simpa using hatE)).tail
                simp only [List.set_cons_zero, List.set_cons_succ] at S4
                obtain ⟨aE, cE, rfl⟩ := own_slice hownE
                have S5 := Lib.hid S4
                clear S3 S4 kG0 kG1 kG2 hownE hgE hatE
                go_wp2_with fail
                go_ret2
                refine GOut.yes ?_
                rw [ha1.out, ha2.out, hJl.out, flat_snoc]
                exact S5.out
        · have hjj : ((decide (kind = 5) || decide (kind = 6)) && decide (xs.length + ys.length < 200)) = false := by simp [hlen]
          rw [hjj]
          clear hjj
          have hgt : (200 : Int) < ((xs.length + ys.length + 1 : Nat) : Int) := by omega
          rcases hkk with rfl | rfl
          · have ekk : ((5 : Int) == 5) = true := rfl
            go_enter Try.func36, Try.ntmps36
            go_wp2_with fail
            refine hc.out.mono ?_
            rintro e w1 ⟨rfl, hb1⟩
            have k0 := (hb1.cell (p := ⟨w.heap.size, 0, none⟩) hb0).trans c0
            have S1 := Lib.hid (S0.out.grow hb1)
            clear hb1 hc
            have hd2 := Lib.hid (hd.out _ S1.out.below)
            go_wp2_with fail
            refine hd2.out.mono ?_
            rintro e w2 ⟨rfl, hb2⟩
            have k1 := (hb2.cell (p := ⟨w.heap.size, 0, none⟩) (S1.out.box (i := 0) rfl).2.1).trans k0
            have S2 := Lib.hid (S1.out.grow hb2)
            clear hb2 hd hd2 S1
            go_wp2_with fail
            go_ret2
            exact GOut.no S2.out.below
          · have ekk : ((6 : Int) == 5) = false := rfl
            go_enter Try.func36, Try.ntmps36
            go_wp2_with fail
            refine hc.out.mono ?_
            rintro e w1 ⟨rfl, hb1⟩
            have k0 := (hb1.cell (p := ⟨w.heap.size, 0, none⟩) hb0).trans c0
            have S1 := Lib.hid (S0.out.grow hb1)
            clear hb1 hc
            have hd2 := Lib.hid (hd.out _ S1.out.below)
            go_wp2_with fail
            refine hd2.out.mono ?_
            rintro e w2 ⟨rfl, hb2⟩
            have k1 := (hb2.cell (p := ⟨w.heap.size, 0, none⟩) (S1.out.box (i := 0) rfl).2.1).trans k0
            have S2 := Lib.hid (S1.out.grow hb2)
            clear hb2 hd hd2 S1
            go_wp2_with fail
            go_ret2
            exact GOut.no S2.out.below
      · have hjj : ((decide (kind = 5) || decide (kind = 6)) && decide (xs.length + ys.length < 200)) = false := by
          rw [decide_eq_false (fun h => hkk (.inl h)), decide_eq_false (fun h => hkk (.inr h))]; rfl
        rw [hjj]
        clear hjj
        have e5 : (kind == 5) = false := beq_eq_false_iff_ne.2 fun h => hkk (.inl h)
        have e6 : (kind == 6) = false := beq_eq_false_iff_ne.2 fun h => hkk (.inr h)
        have e7 : (kind != 5) = true := bne_iff_ne.2 fun h => hkk (.inl h)
        have e8 : (kind != 6) = true := bne_iff_ne.2 fun h => hkk (.inr h)
        go_enter Try.func36, Try.ntmps36
        go_wp2_with fail
        refine hc.out.mono ?_
        rintro e w1 ⟨rfl, hb1⟩
        have k0 := (hb1.cell (p := ⟨w.heap.size, 0, none⟩) hb0).trans c0
        have S1 := Lib.hid (S0.out.grow hb1)
        clear hb1 hc
        have hd2 := Lib.hid (hd.out _ S1.out.below)
        go_wp2_with fail
        refine hd2.out.mono ?_
        rintro e w2 ⟨rfl, hb2⟩
        have k1 := (hb2.cell (p := ⟨w.heap.size, 0, none⟩) (S1.out.box (i := 0) rfl).2.1).trans k0
        have S2 := Lib.hid (S1.out.grow hb2)
        clear hb2 hd hd2 S1
        go_wp2_with fail
        go_ret2
        exact GOut.no S2.out.below
end Go.Proofs.Ytkhopkonddgicaa

/- Contracts: monotone circuits and a variable put, in the reference. -/
namespace Go.Proofs.Ytkhopkonddgicaa
open Go.RowKit

theorem mono_yes {vars : Int} {gs : List Gt} (hg : OkG vars gs) (hp : 0 < gs.length) (h : ∀ i (hi : i < gs.length), needB gs i = true → gs[i].k ≠ 4) : monoB gs = true := by
  unfold monoB
  rw [Bool.not_eq_true', List.any_eq_false, needL_filter hg hp]
  intro i hi
  obtain ⟨h1, h2⟩ := List.mem_filter.1 hi
  have hlt := List.mem_range.1 h1
  have := h i hlt h2
  rw [List.getD_eq_getElem?_getD, List.getElem?_eq_getElem hlt]
  simpa using this
theorem mono_no {vars : Int} {gs : List Gt} (hg : OkG vars gs) (hp : 0 < gs.length) {i : Nat} (hi : i < gs.length) (h1 : needB gs i = true) (h2 : gs[i].k = 4) : monoB gs = false := by
  unfold monoB
  rw [Bool.not_eq_false', List.any_eq_true, needL_filter hg hp]
  refine ⟨i, List.mem_filter.2 ⟨List.mem_range.2 hi, h1⟩, ?_⟩
  rw [List.getD_eq_getElem?_getD, List.getElem?_eq_getElem hi]
  simpa using h2

set_option maxRecDepth 100000 in
set_option maxHeartbeats 8000000 in
theorem specMono_any (vars : Int) (A : Option Addr) (c : Nat) (gs : List Gt) (w : World) (hx : GtAt w A gs) (hl : gs.length ≤ 1000) :
    Calls Try.prog 29 #[.int .i64 vars, .slice A gs.length c] w fun e w' => e = .returned (.tuple #[.bool (circB vars gs && monoB gs), .bool (circB vars gs)]) ∧ Below w.heap.size w w' := by
  have hc := l6Good_any vars A c gs w hx (by omega)
  have hX := Lib.hid hx
  cases hq : circB vars gs
  · rw [hq] at hc
    replace hc := Lib.hid hc
    clear hx hq
    go_enter Try.func29, Try.ntmps29
    go_wp2_with fail
    refine hc.out.mono ?_
    rintro e w1 ⟨rfl, hb1⟩
    replace hb1 := Lib.hid hb1
    go_wp2_with fail
    go_ret2
    exact ⟨rfl, hb1.out⟩
  · rw [hq] at hc
    obtain ⟨-, hv, hp, -, hok⟩ := circ_vars hq
    have hf := Lib.hid (fun W (h : Below w.heap.size w W) => l6Needed_any A c gs W (hx.grow h) hok hp hl (by omega))
    have hyes := Lib.hid (mono_yes hok hp)
    have hno := Lib.hid (fun i (hi : i < gs.length) h1 h2 => mono_no hok hp hi h1 h2)
    replace hc := Lib.hid hc
    rw [Bool.true_and]
    generalize monoB gs = r at hyes hno ⊢
    generalize needB gs = f at hf hyes hno
    clear hx hq hok
    go_enter Try.func29, Try.ntmps29
    go_wp2_with fail
    refine hc.out.mono ?_
    rintro e w1 ⟨rfl, hb1⟩
    have hf2 := Lib.hid (hf.out _ hb1)
    replace hb1 := Lib.hid (Sp.of_below hb1)
    clear hf hc
    go_wp2_with fail
    refine hf2.out.mono ?_
    rintro e w2 ⟨rfl, S2⟩
    have S3 := Lib.hid (hb1.out.seq S2)
    clear hf2 hb1 S2
    go_wp2_with fail
    go_loopw [7] (fun i wr => ∃ q : Nat, q ≤ gs.length ∧ i = .int .i64 (q : Int) ∧ Hid (∀ j (hj : j < gs.length), j < q → f j = true → gs[j].k ≠ 4) ∧ wr = w2) (fun i _ => gs.length - (intOf i).toNat)
    case atStart => exact ⟨0, Nat.zero_le _, rfl, Lib.hid (fun j hj h => absurd h (by omega)), rfl⟩
    case round =>
      obtain ⟨q, hqn, rfl, hprev, rfl⟩ := hrel
      by_cases hlt : q < gs.length
      · have hqi : (q : Int) < gs.length := by omega
        have t0 := S3.out.cell (i := 0) rfl (o := q) (boolsA_get hlt)
        obtain ⟨bg, og, e, m0, m1, m2⟩ := (hX.out.grow S3.out.below).at_ q hlt
        cases e
        cases hfq : f q
        · rw [hfq] at t0
          have hp2 : Hid (∀ j (hj : j < gs.length), j < q + 1 → f j = true → gs[j].k ≠ 4) := Lib.hid (fun j hj h hf => by
            by_cases e : j = q
            · subst e; rw [hfq] at hf; cases hf
            · exact hprev.out j hj (by omega) hf)
          clear m0 m1 m2 hprev hfq
          go_wp2_with fail
          go_roundw
          case rel => exact ⟨q + 1, by omega, by first | rfl | simp, hp2, by first | rfl | trivial⟩
          case measure => simp [intOf]; omega
        · rw [hfq] at t0
          by_cases hk : gs[q].k = 4
          · obtain rfl := hno.out q hlt hfq hk
            rw [hk] at m0
            have hB := Lib.hid S3.out.below
            clear S3 hprev hyes hno hk hfq m1 m2
            go_wp2_with fail
            go_ret2
            exact ⟨rfl, hB.out⟩
          · have hp2 : Hid (∀ j (hj : j < gs.length), j < q + 1 → f j = true → gs[j].k ≠ 4) := Lib.hid (fun j hj h hf => by
              by_cases e : j = q
              · subst e; exact hk
              · exact hprev.out j hj (by omega) hf)
            have ev : (gs[q].k == 4) = false := beq_eq_false_iff_ne.2 hk
            clear m1 m2 hprev hfq hk
            replace hp2 := Lib.hid hp2
            generalize gs[q].k = gk at m0 ev
            go_wp2_with fail
            go_roundw
            case rel => exact ⟨q + 1, by omega, by first | rfl | simp, hp2.out, by first | rfl | trivial⟩
            case measure => simp [intOf]; omega
      · obtain rfl : q = gs.length := by omega
        obtain rfl := hyes.out fun j hj hfj => hprev.out j hj hj hfj
        have hB := Lib.hid S3.out.below
        clear S3 hprev hyes hno
        go_wp2_with fail
        go_ret2
        exact ⟨rfl, hB.out⟩

set_option maxRecDepth 100000 in
set_option maxHeartbeats 8000000 in
theorem specRestrict_any (vars v : Int) (val : Bool) (A : Option Addr) (c : Nat) (gs : List Gt) (w : World) (hx : GtAt w A gs) (hl : gs.length ≤ 1000) :
    Calls Try.prog 32 #[.int .i64 vars, .slice A gs.length c, .int .i64 v, .bool val] w (GOut w (circB vars gs && inB v 1 vars) (restG v val gs)) := by
  obtain ⟨i0, hi0, hz0, hz1, hz2⟩ := info_parts infoGt
  have S0 := (Sp.start w).own_made 41 3
  have hc := l6Good_any vars A c gs _ (hx.grow S0.below) (by omega)
  have hX := Lib.hid hx
  replace S0 := Lib.hid S0
  cases hq : circB vars gs
  · rw [hq] at hc
    rw [Bool.false_and]
    replace hc := Lib.hid hc
    clear hx hq
    go_enter Try.func32, Try.ntmps32
    go_wp2_with fail
    refine hc.out.mono ?_
    rintro e w1 ⟨rfl, hb1⟩
    have S2 := Lib.hid (S0.out.grow hb1)
    go_wp2_with fail
    go_ret2
    exact ⟨_, rfl, S2.out⟩
  · rw [hq] at hc
    rw [Bool.true_and]
    replace hc := Lib.hid hc
    clear hx hq
    cases hvv : inB v 1 vars
    · have hvr := Lib.hid (fun W => l1InG hvv W)
      clear hvv
      go_enter Try.func32, Try.ntmps32
      go_wp2_with fail
      refine hc.out.mono ?_
      rintro e w1 ⟨rfl, hb1⟩
      have S2 := Lib.hid (S0.out.grow hb1)
      clear S0 hc hb1
      go_wp2_with fail
      refine (hvr.out _).mono ?_
      rintro e w2 ⟨rfl, hb2⟩
      replace S2 := Lib.hid (S2.out.grow hb2)
      clear hb2 hvr
      go_wp2_with fail
      go_ret2
      exact ⟨_, rfl, S2.out⟩
    · have hvr := Lib.hid (fun W => l1InG hvv W)
      clear hvv
      have hco := Lib.hid (fun W => l6Constant_any val W)
      obtain ⟨kz, hkz⟩ : ∃ kz : Int, (if val then 2 else 3) = kz := ⟨_, rfl⟩
      rw [hkz] at hco
      replace hkz := Lib.hid hkz
      go_enter Try.func32, Try.ntmps32
      go_wp2_with fail
      refine hc.out.mono ?_
      rintro e w1 ⟨rfl, hb1⟩
      have S2 := Lib.hid (S0.out.grow hb1)
      clear S0 hc hb1
      go_wp2_with fail
      refine (hvr.out _).mono ?_
      rintro e w2 ⟨rfl, hb2⟩
      replace S2 := Lib.hid (S2.out.grow hb2)
      clear hb2 hvr
      go_wp2_with fail
      go_loopw [11, 10] (fun i o wr => ∃ (q : Nat) (ov : Value), q ≤ gs.length ∧ i = .int .i64 (q : Int) ∧ o = ov ∧ Hid (Sp w wr [Own 41 3 ov q ((restG v val (gs.take q)).flatMap gtEnc)])) (fun i _ _ => gs.length - (intOf i).toNat)
      case atStart => exact ⟨0, _, Nat.zero_le _, rfl, rfl, S2⟩
      case round =>
        obtain ⟨q, ov, hqn, rfl, rfl, hS⟩ := hrel
        clear S2
        obtain ⟨aO, cO, rfl⟩ := own_slice (hS.out.own (i := 0) rfl)
        by_cases hlt : q < gs.length
        · have hqi : (q : Int) < gs.length := by omega
          obtain ⟨bg, og, e, n0, n1, n2⟩ := (hX.out.grow hS.out.below).at_ q hlt
          cases e
          have htk := rest_take (v := v) (val := val) hlt
          generalize gs[q] = g at n0 n1 n2 htk
          obtain ⟨gk, ga, gb⟩ := g
          dsimp only at n0 n1 n2
          unfold restGt at htk
          dsimp only at htk
          by_cases hk : gk = 1
          · subst hk
            by_cases ha : ga = v
            · subst ha
              rw [if_pos ⟨rfl, rfl⟩, hkz.out] at htk
              replace htk := Lib.hid htk
              have ev : (ga == ga) = true := by simp
              clear n2
              go_wp2_with fail
              refine (hco.out _).mono ?_
              rintro e w4 ⟨rfl, hb4⟩
              replace hS := Lib.hid (hS.out.grow hb4)
              clear hb4 n0 n1 ev
              have S3 := hS.out.alloc_box #[.int .i64 kz, .int .i64 0, .int .i64 0] 41
              (try simp only [World.size_setCell] at S3)
              have kG0 := S3.cell (i := 0) rfl (o := 0) rfl
              have kG1 := S3.cell (i := 0) rfl (o := 1) rfl
              have kG2 := S3.cell (i := 0) rfl (o := 2) rfl
              replace S3 := Lib.hid S3
              clear hS
              go_wp2_with (at_builtin; refine wpList_append_src rfl _ _ rfl Try.underlying28 hi0 hz0 hz1 hz2 rfl (by decide) _ q _ rfl (S3.out.own (i := 1) rfl) _ 1 1 [.int .i64 kz, .int .i64 0, .int .i64 0] rfl (Src.threeG kG0 kG1 kG2) (by simp [Value.oneCell']) ?c3 ?c4 ?_)
              case c3 => unfold maxLen; omega
              case c4 => omega
              intro vE wE hownE hgE hatE
              have S4 := (S3.out.own_push (i := 1) rfl (bb _) hownE hgE (by simpa using hatE)).tail
              simp only [List.set_cons_zero, List.set_cons_succ] at S4
              obtain ⟨aE, cE, rfl⟩ := own_slice hownE
              have hS := Lib.hid S4
              clear S3 S4 kG0 kG1 kG2 hownE hgE hatE
              go_wp2_with fail
              go_roundw
              case rel =>
                refine ⟨q + 1, _, by omega, by first | rfl | simp, rfl, ?_⟩
                unfold Hid
                rw [htk.out, flat_snoc]
                exact hS.out
              case measure => simp [intOf]; omega
            · rw [if_neg (fun h => ha h.2)] at htk
              replace htk := Lib.hid htk
              have ev : (ga == v) = false := beq_eq_false_iff_ne.2 ha
              clear ha
              have S3 := hS.out.alloc_box #[.int .i64 1, .int .i64 ga, .int .i64 gb] 41
              (try simp only [World.size_setCell] at S3)
              have kG0 := S3.cell (i := 0) rfl (o := 0) rfl
              have kG1 := S3.cell (i := 0) rfl (o := 1) rfl
              have kG2 := S3.cell (i := 0) rfl (o := 2) rfl
              replace S3 := Lib.hid S3
              clear hS
              go_wp2_with (at_builtin; refine wpList_append_src rfl _ _ rfl Try.underlying28 hi0 hz0 hz1 hz2 rfl (by decide) _ q _ rfl (S3.out.own (i := 1) rfl) _ 1 1 [.int .i64 1, .int .i64 ga, .int .i64 gb] rfl (Src.threeG kG0 kG1 kG2) (by simp [Value.oneCell']) ?c3 ?c4 ?_)
              case c3 => unfold maxLen; omega
              case c4 => omega
              intro vE wE hownE hgE hatE
              have S4 := (S3.out.own_push (i := 1) rfl (bb _) hownE hgE (by simpa using hatE)).tail
              simp only [List.set_cons_zero, List.set_cons_succ] at S4
              obtain ⟨aE, cE, rfl⟩ := own_slice hownE
              have hS := Lib.hid S4
              clear S3 S4 kG0 kG1 kG2 hownE hgE hatE
              go_wp2_with fail
              go_roundw
              case rel =>
                refine ⟨q + 1, _, by omega, by first | rfl | simp, rfl, ?_⟩
                unfold Hid
                rw [htk.out, flat_snoc]
                exact hS.out
              case measure => simp [intOf]; omega
          · rw [if_neg (fun h => hk h.1)] at htk
            replace htk := Lib.hid htk
            have ev : (gk == 1) = false := beq_eq_false_iff_ne.2 hk
            clear hk
            have S3 := hS.out.alloc_box #[.int .i64 gk, .int .i64 ga, .int .i64 gb] 41
            (try simp only [World.size_setCell] at S3)
            have kG0 := S3.cell (i := 0) rfl (o := 0) rfl
            have kG1 := S3.cell (i := 0) rfl (o := 1) rfl
            have kG2 := S3.cell (i := 0) rfl (o := 2) rfl
            replace S3 := Lib.hid S3
            clear hS
            go_wp2_with (at_builtin; refine wpList_append_src rfl _ _ rfl Try.underlying28 hi0 hz0 hz1 hz2 rfl (by decide) _ q _ rfl (S3.out.own (i := 1) rfl) _ 1 1 [.int .i64 gk, .int .i64 ga, .int .i64 gb] rfl (Src.threeG kG0 kG1 kG2) (by simp [Value.oneCell']) ?c3 ?c4 ?_)
            case c3 => unfold maxLen; omega
            case c4 => omega
            intro vE wE hownE hgE hatE
            have S4 := (S3.out.own_push (i := 1) rfl (bb _) hownE hgE (by simpa using hatE)).tail
            simp only [List.set_cons_zero, List.set_cons_succ] at S4
            obtain ⟨aE, cE, rfl⟩ := own_slice hownE
            have hS := Lib.hid S4
            clear S3 S4 kG0 kG1 kG2 hownE hgE hatE
            go_wp2_with fail
            go_roundw
            case rel =>
              refine ⟨q + 1, _, by omega, by first | rfl | simp, rfl, ?_⟩
              unfold Hid
              rw [htk.out, flat_snoc]
              exact hS.out
            case measure => simp [intOf]; omega
        · obtain rfl : q = gs.length := by omega
          have hT : Hid (Sp w wr [Own 41 3 (.slice aO gs.length cO) (restG v val gs).length ((restG v val gs).flatMap gtEnc)]) := by
            unfold Hid
            rw [restG_len]
            have h := hS.out
            rw [List.take_length] at h
            exact h
          clear hS
          go_wp2_with fail
          go_ret2
          exact GOut.yes hT.out
end Go.Proofs.Ytkhopkonddgicaa
