/- Lemmas and contracts for a law, put together out of several texts: WalkCnfCircuits. -/
import Derived.Test.YtkhopkonddgicaaMg6
import Derived.Test.YtkhopkonddgicaaMg7
import Derived.Test.YtkhopkonddgicaaMg9
import Derived.Deep.DeepCutAuto
/- The walk of FnCnfCircuits. -/
namespace Go.Proofs.Ytkhopkonddgicaa
open Go.RowKit

set_option maxRecDepth 100000 in
set_option maxHeartbeats 4000000 in
theorem drawCircuitOfCnf_any (ca : Option Addr) (cl cc : Nat) (w : World) (hc : CodeOk w ca cl) (hs : cl ≤ 65536) : Calls Try.prog 7 #[.slice ca cl cc] w (CnfD w) := by
  have S0 := (Sp.start w).alloc_box #[.int .i64 0, .slice none 0 0] 26
  have hd := Lib.hid (drawIsCnf_any ca cl cc _ (hc.grow S0.below) hs)
  replace S0 := Lib.hid S0
  go_enter Try.func7, Try.ntmps7
  go_wp2_with fail
  refine hd.out.mono ?_
  rintro e w1 ⟨vars, B, cap, cs, xss, rfl, hv0, hv1, hl, HC, T⟩
  replace HC := Lib.hid HC
  have S1 := S0.out.seq T
  clear T S0 hd
  have e0 := S1.cell (i := 1) rfl (o := 0) rfl
  have e1 := S1.cell (i := 1) rfl (o := 1) rfl
  have f0 := S1.frozen (i := 1) rfl 0
  have f1 := S1.frozen (i := 1) rfl 1
  have S6 := (S1.store (i := 1) rfl 0 (.int .i64 vars)).store (i := 1) rfl 1 (.slice B xss.length cap)
  have j0 := S6.cell (i := 1) rfl (o := 0) rfl
  have j1 := S6.cell (i := 1) rfl (o := 1) rfl
  have hR := Lib.hid (Sp.front (qs := [_]) S6)
  clear S6 S1
  go_wp2_with fail
  exact bodyPost_ret (v := .agg #[.int .i64 vars, .slice B xss.length cap]) (by simp [results, Try.results7, go_sem, j0, j1]) rfl ⟨vars, B, cap, cs, xss, rfl, hv0, hv1, hl, HC.out, hR.out⟩

theorem GOut.got {w w' : World} {gs : List Gt} {e : Ending} (h : GOut w true gs e w') (hok : ∀ x ∈ gs, gtOk x) :
    ∃ A c, e = .returned (.tuple #[.slice A gs.length c, .bool true]) ∧ GtAt w' A gs ∧ Below w.heap.size w w' := by
  obtain ⟨v, rfl, S⟩ := h
  obtain ⟨A, c, rfl, hG⟩ := gt_own (S.own (i := 0) rfl) hok
  exact ⟨A, c, rfl, hG, S.below⟩
theorem GOut.none {w w' : World} {gs : List Gt} {e : Ending} (h : GOut w false gs e w') :
    ∃ A c, e = .returned (.tuple #[.slice A 0 c, .bool false]) ∧ Below w.heap.size w w' := by
  obtain ⟨v, rfl, S⟩ := h
  obtain ⟨A, c, rfl⟩ := own_slice (S.own (i := 0) rfl)
  exact ⟨A, c, rfl, S.below⟩
/-- Gates as the source of an append. -/
theorem gt_src {w : World} {A : Option Addr} {gs : List Gt} (h : GtAt w A gs) : Src w A gs.length 3 (gs.flatMap gtEnc) := by
  rcases Nat.eq_zero_or_pos gs.length with h0 | h0
  · obtain rfl := List.length_eq_zero_iff.1 h0
    exact .inl ⟨rfl, rfl⟩
  · obtain ⟨b, off, rfl, -, -, -⟩ := h.at_ 0 h0
    have hfl : (gs.flatMap gtEnc).length = gs.length * 3 := by
      clear h h0
      induction gs with
      | nil => rfl
      | cons g gs ih => rw [List.flatMap_cons, List.length_append, ih, List.length_cons]; simp [gtEnc]; omega
    refine .inr ⟨_, rfl, hfl, fun j u hj => ?_⟩
    have hjl : j < gs.length * 3 := by
      rw [← hfl]
      exact (List.getElem?_eq_some_iff.1 hj).1
    obtain ⟨i, r, hr, rfl⟩ : ∃ i r, r < 3 ∧ j = i * 3 + r := ⟨j / 3, j % 3, Nat.mod_lt _ (by decide), by omega⟩
    have hi : i < gs.length := by omega
    have hf := flat_get (enc := gtEnc) (n := 3) (fun _ => rfl) gs i hi r hr
    rw [hj] at hf
    obtain ⟨b', off', e, m0, m1, m2⟩ := h.at_ i hi
    cases e
    rw [add_none]
    match r, hr, hf with
    | 0, _, hf => cases hf; exact m0
    | 1, _, hf => cases hf; exact m1
    | 2, _, hf => cases hf; exact m2

set_option maxRecDepth 100000 in
set_option maxHeartbeats 16000000 in
theorem FnCnfCircuits_walk (ca : Option Addr) (cl cc : Nat) (w : World) (hc : CodeOk w ca cl) :
    Calls Try.prog 3 #[.slice ca cl cc] w fun e w' => e = .returned (.bool true) ∧ Below w.heap.size w w' := by
  obtain ⟨i0, hi0, hz0, hz1, hz2⟩ := info_parts infoGt
  have hcH := Lib.hid hc
  clear hc
  by_cases hbig : (65536 : Int) < (cl : Int)
  · go_enter Try.func3, Try.ntmps3
    go_wp2_with fail
    refine (rBig_any _ _ _ _).mono ?_
    rintro e w1 ⟨rfl, rfl⟩
    rw [decide_eq_true hbig]
    go_wp2_with fail
    go_ret
    exact ⟨rfl, bb _⟩
  have hsm : cl ≤ 65536 := by omega
  have hv := Lib.hid (decide_eq_false hbig)
  clear hbig
  go_enter Try.func3, Try.ntmps3
  go_wp2_with fail
  refine (rBig_any _ _ _ _).mono ?_
  rintro e w1 ⟨rfl, rfl⟩
  rw [hv.out]
  clear hv
  go_wp2_with fail
  refine (drawCircuitOfCnf_any ca cl cc w1 hcH.out hsm).mono ?_
  rintro e w2 ⟨vars, B, cap, cs, xss, rfl, hv0, hv1, hl, HC, T⟩
  clear HC
  obtain ⟨F, hrow, -⟩ := T.rows_done (i := 0) rfl
  replace hrow := Ty.row_down hrow
  obtain ⟨b_f, hbf⟩ : ∃ b, w2.heap.size = b := ⟨_, rfl⟩
  have S0 := (Sp.of_below T.below).alloc_box #[.int .i64 vars, .slice B xss.length cap] 26
  rw [hbf] at S0
  replace hrow := Ty.row_below hrow (bal (bb w2) (.cells #[.int .i64 vars, .slice B xss.length cap] 26)) (Ty.row_lt hrow)
  obtain ⟨W0, hW0⟩ : ∃ W, w2.alloc (.cells #[.int .i64 vars, .slice B xss.length cap] 26) = W := ⟨_, rfl⟩
  rw [hW0] at S0 hrow
  have hB0 := Lib.hid (bb W0)
  replace S0 := Lib.hid S0
  clear T
  have q1 := fun W (h : Below W0.heap.size W0 W) => implCircuitOf_any vars _ xss F W (Ty.row_below hrow h (Ty.row_lt hrow))
  have q2 := fun W (h : Below W0.heap.size W0 W) => specCircuitOf_any vars _ xss F W (Ty.row_below hrow h (Ty.row_lt hrow))
  cases hok : goodB vars xss && decide ((circR vars.toNat xss).length ≤ 200)
  · rw [hok] at q1 q2
    replace q1 := Lib.hid q1
    replace q2 := Lib.hid q2
    generalize circR vars.toNat xss = gs at q1 q2
    clear hok hrow hv0 hv1
    have c0 := S0.out.cell (i := 0) rfl (o := 0) rfl
    have c1 := S0.out.cell (i := 0) rfl (o := 1) rfl
    go_wp2_with fail
    refine (q1.out _ hB0.out).mono ?_
    rintro e wn hO
    obtain ⟨A1, d1, rfl, hb⟩ := hO.none
    replace S0 := Lib.hid (S0.out.grow hb)
    replace hB0 := Lib.hid (btr hB0.out hb)
    clear hb c0 c1
    clear q1
    have c0 := S0.out.cell (i := 0) rfl (o := 0) rfl
    have c1 := S0.out.cell (i := 0) rfl (o := 1) rfl
    go_wp2_with fail
    refine (q2.out _ hB0.out).mono ?_
    rintro e wn hO
    obtain ⟨A2, d2, rfl, hb⟩ := hO.none
    replace S0 := Lib.hid (S0.out.grow hb)
    replace hB0 := Lib.hid (btr hB0.out hb)
    clear hb c0 c1
    clear q2
    have hr := Lib.hid (fun W => rGates_same A1 A2 d1 d2 [] W ⟨fun j hj => absurd hj (by simp), by simp⟩ ⟨fun j hj => absurd hj (by simp), by simp⟩ (by simp))
    go_wp2_with fail
    refine (hr.out _).mono ?_
    rintro e wn ⟨rfl, hb⟩
    have hB := Lib.hid (btr S0.out.below hb)
    clear hr hb hB0 S0
    go_wp2_with fail
    go_ret
    exact ⟨rfl, hB.out⟩
  · rw [hok] at q1 q2
    rw [Bool.and_eq_true, decide_eq_true_eq] at hok
    obtain ⟨hgood, hlen⟩ := hok
    obtain ⟨n, rfl⟩ : ∃ n : Nat, vars = n := ⟨vars.toNat, by have := good_cnf hgood; omega⟩
    rw [Int.toNat_natCast] at hlen q1 q2
    have hn : n ≤ 12 := by have := good_cnf hgood; omega
    obtain ⟨hsh, hp⟩ := pow12 hn
    have hcv := circ_value (good_lits hgood)
    have hpos : 0 < (circR n xss).length := by
      unfold circR
      by_cases e0 : xss = []
      · rw [if_pos e0]; simp
      · rw [if_neg e0, List.append_nil, cnf_last n e0]; omega
    have hcb : circB n (circR n xss) = true := circ_of hn hpos hlen hcv.1
    have hcm : modT xss = cval (circR n xss) := (funext hcv.2).symm
    have q4 := fun W (h : Below W0.heap.size W0 W) => countCnfModels_any n _ xss F W (Ty.row_below hrow h (Ty.row_lt hrow)) hgood
    have q6 := fun b (hb : b < 2 ^ n) W (h : Below W0.heap.size W0 W) => isModelM_any n b _ xss F W (Ty.row_below hrow h (Ty.row_lt hrow)) hgood hb
    rw [Int.toNat_natCast, hcm] at q4
    rw [hcm] at q6
    have hg64 := gt_small hcv.1 (by omega) (by omega)
    generalize circR n xss = gs at *
    clear hcv hcm hgood hrow
    obtain ⟨hfc, hfv⟩ := fold_facts hcb
    have hf64 : ∀ x ∈ foldR gs, gtOk x := by
      have := circ_vars hfc
      exact gt_small this.2.2.2.2 (by omega) (by omega)
    have q3 := fun W A c (h : GtAt W A gs) => countTrue_any n A c gs W hcb h
    have q5 := fun b (hb : b < 2 ^ n) W A c (h : GtAt W A gs) => circuitValueM_any n b A c gs W hcb h hb
    have q7 := fun W A c (h : GtAt W A gs) => foldM_any n A c gs W h (by omega)
    rw [hcb] at q7
    have q8 := fun W A A' c c' (h : GtAt W A gs) (h' : GtAt W A' (foldR gs)) => sameValues_any n A A' c c' gs (foldR gs) W hcb hfc h h' (fun b _ => (hfv b).symm)
    have hgl : gs.length ≤ 200 := by omega
    have hnot : Hid (gs.length < 200 → circB n (notG gs) = true ∧ (∀ b, cval (notG gs) b = !cval gs b)) := fun h => not_facts hcb h
    have hpu : Hid (gs.length < 200 → (pushesG (notG gs)).out.length ≤ 200 → circB n (pushR (notG gs)) = true ∧ cntP (cval (pushR (notG gs))) (2 ^ n) + cntP (cval gs) (2 ^ n) = 2 ^ n) := fun h h2 => by
      have h3 := not_facts hcb h
      have h4 := push_facts h3.1 h2
      refine ⟨h4.1, ?_⟩
      rw [show cval (pushR (notG gs)) = fun b => !cval gs b from funext fun b => by rw [h4.2, h3.2]]
      exact cnt_not _ _
    generalize foldR gs = fs at *
    clear hfc hfv hcb
    have hkN := cntP_le (cval gs) (2 ^ n)
    generalize cntP (cval gs) (2 ^ n) = k at *
    generalize cval gs = cv at *
    have hN1 : 1 ≤ 2 ^ n := Nat.one_le_two_pow
    obtain ⟨N, hN⟩ : ∃ N, 2 ^ n = N := ⟨_, rfl⟩
    rw [hN] at hsh hp hkN hN1
    simp only [hN] at q5 q6
    replace hN := Lib.hid hN
    replace q1 := Lib.hid q1
    replace q2 := Lib.hid q2
    replace q3 := Lib.hid q3
    replace q4 := Lib.hid q4
    replace q5 := Lib.hid q5
    replace q6 := Lib.hid q6
    replace q7 := Lib.hid q7
    replace q8 := Lib.hid q8
    replace hg64 := Lib.hid hg64
    replace hf64 := Lib.hid hf64
    clear hl hlen hv0 hv1
    have c0 := S0.out.cell (i := 0) rfl (o := 0) rfl
    have c1 := S0.out.cell (i := 0) rfl (o := 1) rfl
    go_wp2_with fail
    refine (q1.out _ hB0.out).mono ?_
    rintro e wn hO
    obtain ⟨A1, d1, rfl, hG, hb⟩ := hO.got hg64.out
    replace hG := Lib.hid hG
    replace S0 := Lib.hid (S0.out.grow hb)
    replace hB0 := Lib.hid (btr hB0.out hb)
    clear hb c0 c1
    clear q1 hO
    have c0 := S0.out.cell (i := 0) rfl (o := 0) rfl
    have c1 := S0.out.cell (i := 0) rfl (o := 1) rfl
    go_wp2_with fail
    refine (q2.out _ hB0.out).mono ?_
    rintro e wn hO
    obtain ⟨A2, d2, rfl, hG2, hb⟩ := hO.got hg64.out
    replace S0 := Lib.hid (S0.out.grow hb)
    replace hB0 := Lib.hid (btr hB0.out hb)
    replace hG := Lib.hid (hG.out.grow hb)
    clear hb c0 c1
    clear q2 hO
    have hr := Lib.hid (rGates_same A1 A2 d1 d2 gs _ hG.out hG2 (by omega))
    clear hG2
    have c0 := S0.out.cell (i := 0) rfl (o := 0) rfl
    have c1 := S0.out.cell (i := 0) rfl (o := 1) rfl
    go_wp2_with fail
    refine (hr.out).mono ?_
    rintro e wn ⟨rfl, hb⟩
    replace S0 := Lib.hid (S0.out.grow hb)
    replace hB0 := Lib.hid (btr hB0.out hb)
    replace hG := Lib.hid (hG.out.grow hb)
    clear hb c0 c1
    clear hr
    have c0 := S0.out.cell (i := 0) rfl (o := 0) rfl
    have c1 := S0.out.cell (i := 0) rfl (o := 1) rfl
    go_wp2_with fail
    refine (q3.out _ _ _ hG.out).mono ?_
    rintro e wn ⟨rfl, hb⟩
    replace S0 := Lib.hid (S0.out.grow hb)
    replace hB0 := Lib.hid (btr hB0.out hb)
    replace hG := Lib.hid (hG.out.grow hb)
    clear hb c0 c1
    have c0 := S0.out.cell (i := 0) rfl (o := 0) rfl
    have c1 := S0.out.cell (i := 0) rfl (o := 1) rfl
    go_wp2_with fail
    refine (q4.out _ hB0.out).mono ?_
    rintro e wn ⟨rfl, hb⟩
    replace S0 := Lib.hid (S0.out.grow hb)
    replace hB0 := Lib.hid (btr hB0.out hb)
    replace hG := Lib.hid (hG.out.grow hb)
    clear hb c0 c1
    clear q4
    have e0 : ((k : Int) != (k : Int)) = false := by simp
    have c0 := S0.out.cell (i := 0) rfl (o := 0) rfl
    have c1 := S0.out.cell (i := 0) rfl (o := 1) rfl
    go_wp2_with fail
    clear c0 c1 e0
    go_loopw [12] (fun i wr => ∃ j : Nat, j ≤ 64 ∧ j ≤ N ∧ i = .int .i64 (j : Int) ∧ Hid (Sp w1 wr [Box b_f 26 #[.int .i64 n, .slice B xss.length cap]]) ∧ Hid (Below W0.heap.size W0 wr) ∧ Hid (GtAt wr A1 gs)) (fun i _ => 64 - (intOf i).toNat)
    case atStart => exact ⟨0, by omega, by omega, rfl, S0, hB0, hG⟩
    case round =>
      obtain ⟨j, hj, hjN, rfl, hS, hB, hGr⟩ := hrel
      clear S0 hB0 hG
      have S0 := hS
      have hB0 := hB
      have hG := hGr
      clear hS hB hGr
      by_cases hboth : j < N ∧ j < 64
      · obtain ⟨hjn, hj64⟩ := hboth
        have hji : (j : Int) < N := by omega
        have hj2 : (j : Int) < 64 := by omega
        have hq5 := Lib.hid (fun W A c h => q5.out j hjn W A c h)
        obtain ⟨x, hx⟩ : ∃ x, cv j = x := ⟨_, rfl⟩
        have hq6 := Lib.hid (fun W h => q6.out j hjn W h)
        simp only [hx] at hq5 hq6
        clear hx
        have c0 := S0.out.cell (i := 0) rfl (o := 0) rfl
        have c1 := S0.out.cell (i := 0) rfl (o := 1) rfl
        go_wp2_with fail
        refine (hq5.out _ _ _ hG.out).mono ?_
        rintro e wn ⟨rfl, hb⟩
        replace S0 := Lib.hid (S0.out.grow hb)
        replace hB0 := Lib.hid (btr hB0.out hb)
        replace hG := Lib.hid (hG.out.grow hb)
        clear hb c0 c1
        try rw [hsh]
        have c0 := S0.out.cell (i := 0) rfl (o := 0) rfl
        have c1 := S0.out.cell (i := 0) rfl (o := 1) rfl
        go_wp2_with fail
        refine (hq6.out _ hB0.out).mono ?_
        rintro e wn ⟨rfl, hb⟩
        replace S0 := Lib.hid (S0.out.grow hb)
        replace hB0 := Lib.hid (btr hB0.out hb)
        replace hG := Lib.hid (hG.out.grow hb)
        clear hb c0 c1
        clear hq5 hq6
        have e0 : (x != x) = false := by cases x <;> rfl
        go_wp2_with fail
        go_roundw
        case rel => exact ⟨j + 1, by omega, by omega, by first | rfl | simp, S0, hB0, hG⟩
        case measure => simp [intOf]; omega
      · by_cases hjn : j < N
        · have hji : (j : Int) < N := by omega
          have hj2 : ¬ (j : Int) < 64 := by omega
          have e5 : wr = wr := rfl
          have c0 := S0.out.cell (i := 0) rfl (o := 0) rfl
          have c1 := S0.out.cell (i := 0) rfl (o := 1) rfl
          go_wp2_with fail
          refine (q7.out _ _ _ hG.out).mono ?_
          rintro e wn hO
          obtain ⟨A7, d7, rfl, hH, hb⟩ := hO.got hf64.out
          replace hH := Lib.hid hH
          clear hO
          replace S0 := Lib.hid (S0.out.grow hb)
          replace hB0 := Lib.hid (btr hB0.out hb)
          replace hG := Lib.hid (hG.out.grow hb)
          clear hb c0 c1
          have c0 := S0.out.cell (i := 0) rfl (o := 0) rfl
          have c1 := S0.out.cell (i := 0) rfl (o := 1) rfl
          go_wp2_with fail
          refine (q8.out _ _ _ _ _ hG.out hH.out).mono ?_
          rintro e wn ⟨rfl, hb⟩
          replace S0 := Lib.hid (S0.out.grow hb)
          replace hB0 := Lib.hid (btr hB0.out hb)
          replace hG := Lib.hid (hG.out.grow hb)
          clear hb c0 c1
          clear q7 q8 hH
          by_cases hl2 : gs.length < 200
          · have hlt : (gs.length : Int) < 200 := by omega
            have hcn := (hnot.out hl2).1
            have hpu2 := Lib.hid (hpu.out hl2)
            clear hnot hpu
            obtain ⟨m, hm⟩ : ∃ m, gs.length = m + 1 := ⟨gs.length - 1, by omega⟩
            have hw : IntKind.i64.wrap ((gs.length : Int) - 1) = (m : Int) := by rw [show (gs.length : Int) - 1 = (m : Int) by omega]; exact IntWalk.i64_in _ (by omega)
            have hnG : Hid (notG gs = gs ++ [⟨4, (m : Int), 0⟩]) := by unfold Hid notG; rw [hm, Nat.add_sub_cancel]
            replace hm := Lib.hid hm
            have hnl : Hid ((notG gs).length = gs.length + 1) := by unfold Hid; rw [hnG.out]; simp
            have hn64 : Hid (∀ x ∈ notG gs, gtOk x) := gt_small (circ_vars hcn).2.2.2.2 (by omega) (by rw [hnl.out]; omega)
            have q9 := fun W A c (h : GtAt W A (notG gs)) => pushM_any n A c (notG gs) W h (by rw [hnl.out]; omega)
            rw [hcn, Bool.true_and] at q9
            simp only [hnl.out] at q9
            replace q9 := Lib.hid q9
            have h1c : Hid (∀ u ∈ gs.flatMap gtEnc, u.oneCell' = true) := by
              intro u hu
              obtain ⟨g, -, hg⟩ := List.mem_flatMap.1 hu
              simp only [gtEnc, List.mem_cons, List.not_mem_nil, or_false] at hg
              rcases hg with rfl | rfl | rfl <;> rfl
            have S4 := S0.out.own_made 41 3
            have hsr := Lib.hid (gt_src (hG.out.grow (bal (bb wn) (.cells #[] 41))))
            replace S4 := Lib.hid S4
            clear S0
            go_wp2_with (at_builtin; refine wpList_append_src rfl _ _ rfl Try.underlying28 hi0 hz0 hz1 hz2 rfl (by decide) _ 0 _ rfl (S4.out.own (i := 0) rfl) A1 gs.length d1 (gs.flatMap gtEnc) rfl hsr.out h1c.out ?c3 ?c4 ?_)
            case c3 => unfold maxLen; omega
            case c4 => omega
            intro vY wY hownY hgY hatY
            have S5 := S4.out.own_push (i := 0) rfl (bb _) hownY hgY (by simpa using hatY)
            obtain ⟨aY, cY, rfl⟩ := own_slice hownY
            (try rw [List.nil_append] at S5)
            (try simp only [Nat.zero_add, List.set_cons_zero] at S5)
            (try simp only [Nat.zero_add])
            have hS := Lib.hid S5
            clear S4 S5 hownY hgY hatY hsr h1c
            have S3 := hS.out.alloc_box #[.int .i64 4, .int .i64 (m : Int), .int .i64 0] 41
            have kG0 := S3.cell (i := 0) rfl (o := 0) rfl
            have kG1 := S3.cell (i := 0) rfl (o := 1) rfl
            have kG2 := S3.cell (i := 0) rfl (o := 2) rfl
            replace S3 := Lib.hid S3
            clear hS
            go_wp2_with (at_builtin; refine wpList_append_src rfl _ _ rfl Try.underlying28 hi0 hz0 hz1 hz2 rfl (by decide) _ gs.length _ rfl (S3.out.own (i := 1) rfl) _ 1 1 [.int .i64 4, .int .i64 (m : Int), .int .i64 0] rfl (Src.threeG kG0 kG1 kG2) (by simp [Value.oneCell']) ?c3 ?c4 ?_)
            case c3 => unfold maxLen; omega
            case c4 => omega
            intro vE wE hownE hgE hatE
            have S4 := (S3.out.own_push (i := 1) rfl (bb _) hownE hgE (by simpa using hatE)).tail
            simp only [List.set_cons_zero, List.set_cons_succ] at S4
            obtain ⟨aE, cE, rfl⟩ := own_slice hownE
            have hS := Lib.hid S4
            clear S3 S4 kG0 kG1 kG2 hownE hgE hatE
            have hS2 : Sp w1 wE [Own 41 3 (.slice aE (gs.length + 1) cE) (notG gs).length ((notG gs).flatMap gtEnc), Box b_f 26 #[.int .i64 n, .slice B xss.length cap]] := by
              rw [hnl.out, hnG.out, flat_snoc]
              exact hS.out
            obtain ⟨A9, c9, e9, hG9⟩ := gt_own (hS2.own (i := 0) rfl) hn64.out
            rw [hnl.out] at e9
            cases e9
            replace hG9 := Lib.hid hG9
            have S0 := Lib.hid hS2.tail
            clear hS hS2 hG
            have c0 := S0.out.cell (i := 0) rfl (o := 0) rfl
            have c1 := S0.out.cell (i := 0) rfl (o := 1) rfl
            go_wp2_with fail
            by_cases hp2 : (pushesG (notG gs)).out.length ≤ 200
            · have hd := decide_eq_true hp2
              rw [hd] at q9
              have hpp := hpu2.out hp2
              rw [hN.out] at hpp
              have hr64 := gt_small (circ_vars hpp.1).2.2.2.2 (by omega) (by have := circ_vars hpp.1; omega)
              have q10 := fun W A c (h : GtAt W A (pushR (notG gs))) => countTrue_any n A c (pushR (notG gs)) W hpp.1 h
              rw [hN.out] at q10
              have hkk := hpp.2
              generalize cntP (cval (pushR (notG gs))) N = k2 at q10 hkk
              generalize pushR (notG gs) = R at *
              replace q9 := Lib.hid q9
              replace q10 := Lib.hid q10
              replace hr64 := Lib.hid hr64
              clear hpp hpu2 hd hp2
              refine (q9.out _ _ _ hG9.out).mono ?_
              rintro e wn hO
              obtain ⟨A10, c10, rfl, hG10, hb⟩ := hO.got hr64.out
              replace hG10 := Lib.hid hG10
              replace S0 := Lib.hid (S0.out.grow hb)
              clear hO hb c0 c1 q9 hG9
              have c0 := S0.out.cell (i := 0) rfl (o := 0) rfl
              have c1 := S0.out.cell (i := 0) rfl (o := 1) rfl
              go_wp2_with fail
              refine (q10.out _ _ _ hG10.out).mono ?_
              rintro e wn ⟨rfl, hb⟩
              replace S0 := Lib.hid (S0.out.grow hb)
              clear hb c0 c1 q10 hG10
              have hw2 : IntKind.i64.wrap ((k2 : Int) + k) = (N : Int) := by rw [show (k2 : Int) + k = N by omega]; exact IntWalk.i64_in _ (by omega)
              have e1 : ((N : Int) != N) = false := by simp
              have e2 : ((k2 : Int) + k != N) = false := by rw [show (k2 : Int) + k = N by omega]; simp
              clear hkk
              have c0 := S0.out.cell (i := 0) rfl (o := 0) rfl
              have c1 := S0.out.cell (i := 0) rfl (o := 1) rfl
              have hB := Lib.hid S0.out.below
              clear S0
              go_wp2_with fail
              go_ret
              exact ⟨rfl, hB.out⟩
            · have hd := decide_eq_false hp2
              rw [hd] at q9
              replace q9 := Lib.hid q9
              clear hpu2 hd hp2
              refine (q9.out _ _ _ hG9.out).mono ?_
              rintro e wn hO
              obtain ⟨A10, c10, rfl, hb⟩ := hO.none
              have hB := Lib.hid (btr S0.out.below hb)
              clear hO hb c0 c1 q9 hG9 S0
              go_wp2_with fail
              go_ret
              exact ⟨rfl, hB.out⟩
          · have hlt : ¬ (gs.length : Int) < 200 := by omega
            have hB := Lib.hid S0.out.below
            clear S0
            go_wp2_with fail
            go_ret
            exact ⟨rfl, hB.out⟩
        · have hji : ¬ (j : Int) < N := by omega
          have c0 := S0.out.cell (i := 0) rfl (o := 0) rfl
          have c1 := S0.out.cell (i := 0) rfl (o := 1) rfl
          go_wp2_with fail
          refine (q7.out _ _ _ hG.out).mono ?_
          rintro e wn hO
          obtain ⟨A7, d7, rfl, hH, hb⟩ := hO.got hf64.out
          replace hH := Lib.hid hH
          clear hO
          replace S0 := Lib.hid (S0.out.grow hb)
          replace hB0 := Lib.hid (btr hB0.out hb)
          replace hG := Lib.hid (hG.out.grow hb)
          clear hb c0 c1
          have c0 := S0.out.cell (i := 0) rfl (o := 0) rfl
          have c1 := S0.out.cell (i := 0) rfl (o := 1) rfl
          go_wp2_with fail
          refine (q8.out _ _ _ _ _ hG.out hH.out).mono ?_
          rintro e wn ⟨rfl, hb⟩
          replace S0 := Lib.hid (S0.out.grow hb)
          replace hB0 := Lib.hid (btr hB0.out hb)
          replace hG := Lib.hid (hG.out.grow hb)
          clear hb c0 c1
          clear q7 q8 hH
          by_cases hl2 : gs.length < 200
          · have hlt : (gs.length : Int) < 200 := by omega
            have hcn := (hnot.out hl2).1
            have hpu2 := Lib.hid (hpu.out hl2)
            clear hnot hpu
            obtain ⟨m, hm⟩ : ∃ m, gs.length = m + 1 := ⟨gs.length - 1, by omega⟩
            have hw : IntKind.i64.wrap ((gs.length : Int) - 1) = (m : Int) := by rw [show (gs.length : Int) - 1 = (m : Int) by omega]; exact IntWalk.i64_in _ (by omega)
            have hnG : Hid (notG gs = gs ++ [⟨4, (m : Int), 0⟩]) := by unfold Hid notG; rw [hm, Nat.add_sub_cancel]
            replace hm := Lib.hid hm
            have hnl : Hid ((notG gs).length = gs.length + 1) := by unfold Hid; rw [hnG.out]; simp
            have hn64 : Hid (∀ x ∈ notG gs, gtOk x) := gt_small (circ_vars hcn).2.2.2.2 (by omega) (by rw [hnl.out]; omega)
            have q9 := fun W A c (h : GtAt W A (notG gs)) => pushM_any n A c (notG gs) W h (by rw [hnl.out]; omega)
            rw [hcn, Bool.true_and] at q9
            simp only [hnl.out] at q9
            replace q9 := Lib.hid q9
            have h1c : Hid (∀ u ∈ gs.flatMap gtEnc, u.oneCell' = true) := by
              intro u hu
              obtain ⟨g, -, hg⟩ := List.mem_flatMap.1 hu
              simp only [gtEnc, List.mem_cons, List.not_mem_nil, or_false] at hg
              rcases hg with rfl | rfl | rfl <;> rfl
            have S4 := S0.out.own_made 41 3
            have hsr := Lib.hid (gt_src (hG.out.grow (bal (bb wn) (.cells #[] 41))))
            replace S4 := Lib.hid S4
            clear S0
            go_wp2_with (at_builtin; refine wpList_append_src rfl _ _ rfl Try.underlying28 hi0 hz0 hz1 hz2 rfl (by decide) _ 0 _ rfl (S4.out.own (i := 0) rfl) A1 gs.length d1 (gs.flatMap gtEnc) rfl hsr.out h1c.out ?c3 ?c4 ?_)
            case c3 => unfold maxLen; omega
            case c4 => omega
            intro vY wY hownY hgY hatY
            have S5 := S4.out.own_push (i := 0) rfl (bb _) hownY hgY (by simpa using hatY)
            obtain ⟨aY, cY, rfl⟩ := own_slice hownY
            (try rw [List.nil_append] at S5)
            (try simp only [Nat.zero_add, List.set_cons_zero] at S5)
            (try simp only [Nat.zero_add])
            have hS := Lib.hid S5
            clear S4 S5 hownY hgY hatY hsr h1c
            have S3 := hS.out.alloc_box #[.int .i64 4, .int .i64 (m : Int), .int .i64 0] 41
            have kG0 := S3.cell (i := 0) rfl (o := 0) rfl
            have kG1 := S3.cell (i := 0) rfl (o := 1) rfl
            have kG2 := S3.cell (i := 0) rfl (o := 2) rfl
            replace S3 := Lib.hid S3
            clear hS
            go_wp2_with (at_builtin; refine wpList_append_src rfl _ _ rfl Try.underlying28 hi0 hz0 hz1 hz2 rfl (by decide) _ gs.length _ rfl (S3.out.own (i := 1) rfl) _ 1 1 [.int .i64 4, .int .i64 (m : Int), .int .i64 0] rfl (Src.threeG kG0 kG1 kG2) (by simp [Value.oneCell']) ?c3 ?c4 ?_)
            case c3 => unfold maxLen; omega
            case c4 => omega
            intro vE wE hownE hgE hatE
            have S4 := (S3.out.own_push (i := 1) rfl (bb _) hownE hgE (by simpa using hatE)).tail
            simp only [List.set_cons_zero, List.set_cons_succ] at S4
            obtain ⟨aE, cE, rfl⟩ := own_slice hownE
            have hS := Lib.hid S4
            clear S3 S4 kG0 kG1 kG2 hownE hgE hatE
            have hS2 : Sp w1 wE [Own 41 3 (.slice aE (gs.length + 1) cE) (notG gs).length ((notG gs).flatMap gtEnc), Box b_f 26 #[.int .i64 n, .slice B xss.length cap]] := by
              rw [hnl.out, hnG.out, flat_snoc]
              exact hS.out
            obtain ⟨A9, c9, e9, hG9⟩ := gt_own (hS2.own (i := 0) rfl) hn64.out
            rw [hnl.out] at e9
            cases e9
            replace hG9 := Lib.hid hG9
            have S0 := Lib.hid hS2.tail
            clear hS hS2 hG
            have c0 := S0.out.cell (i := 0) rfl (o := 0) rfl
            have c1 := S0.out.cell (i := 0) rfl (o := 1) rfl
            go_wp2_with fail
            by_cases hp2 : (pushesG (notG gs)).out.length ≤ 200
            · have hd := decide_eq_true hp2
              rw [hd] at q9
              have hpp := hpu2.out hp2
              rw [hN.out] at hpp
              have hr64 := gt_small (circ_vars hpp.1).2.2.2.2 (by omega) (by have := circ_vars hpp.1; omega)
              have q10 := fun W A c (h : GtAt W A (pushR (notG gs))) => countTrue_any n A c (pushR (notG gs)) W hpp.1 h
              rw [hN.out] at q10
              have hkk := hpp.2
              generalize cntP (cval (pushR (notG gs))) N = k2 at q10 hkk
              generalize pushR (notG gs) = R at *
              replace q9 := Lib.hid q9
              replace q10 := Lib.hid q10
              replace hr64 := Lib.hid hr64
              clear hpp hpu2 hd hp2
              refine (q9.out _ _ _ hG9.out).mono ?_
              rintro e wn hO
              obtain ⟨A10, c10, rfl, hG10, hb⟩ := hO.got hr64.out
              replace hG10 := Lib.hid hG10
              replace S0 := Lib.hid (S0.out.grow hb)
              clear hO hb c0 c1 q9 hG9
              have c0 := S0.out.cell (i := 0) rfl (o := 0) rfl
              have c1 := S0.out.cell (i := 0) rfl (o := 1) rfl
              go_wp2_with fail
              refine (q10.out _ _ _ hG10.out).mono ?_
              rintro e wn ⟨rfl, hb⟩
              replace S0 := Lib.hid (S0.out.grow hb)
              clear hb c0 c1 q10 hG10
              have hw2 : IntKind.i64.wrap ((k2 : Int) + k) = (N : Int) := by rw [show (k2 : Int) + k = N by omega]; exact IntWalk.i64_in _ (by omega)
              have e1 : ((N : Int) != N) = false := by simp
              have e2 : ((k2 : Int) + k != N) = false := by rw [show (k2 : Int) + k = N by omega]; simp
              clear hkk
              have c0 := S0.out.cell (i := 0) rfl (o := 0) rfl
              have c1 := S0.out.cell (i := 0) rfl (o := 1) rfl
              have hB := Lib.hid S0.out.below
              clear S0
              go_wp2_with fail
              go_ret
              exact ⟨rfl, hB.out⟩
            · have hd := decide_eq_false hp2
              rw [hd] at q9
              replace q9 := Lib.hid q9
              clear hpu2 hd hp2
              refine (q9.out _ _ _ hG9.out).mono ?_
              rintro e wn hO
              obtain ⟨A10, c10, rfl, hb⟩ := hO.none
              have hB := Lib.hid (btr S0.out.below hb)
              clear hO hb c0 c1 q9 hG9 S0
              go_wp2_with fail
              go_ret
              exact ⟨rfl, hB.out⟩
          · have hlt : ¬ (gs.length : Int) < 200 := by omega
            have hB := Lib.hid S0.out.below
            clear S0
            go_wp2_with fail
            go_ret
            exact ⟨rfl, hB.out⟩
end Go.Proofs.Ytkhopkonddgicaa
