/- Lemmas and contracts for a law, put together out of several texts: WalkHall. -/
import Derived.Test.YteabiokhbaekpaaMg8
import Derived.Test.YteabiokhbaekpaaMg15
import Derived.Test.YteabiokhbaekpaaMg6
import Derived.Deep.DeepCutAuto
import Derived.Deep.CutBlock
/- The walk of FnHall. -/
namespace Go.Proofs.Yteabiokhbaekpaa
open Go.RowKit

theorem mustH : MustC := fun zs A cap w hx hz hl => mustClause_any zs A cap w hx hz hl
theorem hall_facts (L : List (List Int)) : hsS L = ((hsI L).getD [], (hsI L).isSome) ∧ chV L = csV L ∧ chY L = csY L ∧ chB L = choiceB L := by
  cases h : choiceB L with
  | false =>
    unfold hsS hsI chV csV chY csY chB
    rw [h]
    exact ⟨rfl, rfl, rfl, rfl⟩
  | true =>
    obtain ⟨h1, -, -, h4⟩ := chk_parts h
    obtain ⟨g1, g2⟩ := give_yes h4
    unfold chV csV chY csY chB
    rw [h, if_pos rfl, if_pos rfl, if_pos rfl, if_pos rfl, g1, g2, h4]
    exact ⟨h1, rfl, rfl, rfl⟩
theorem hall_no {L : List (List Int)} (h : choiceB L = false) : hsI L = none ∧ fmR L = none := by
  unfold hsI fmR
  rw [h]
  exact ⟨rfl, rfl⟩
theorem hall_small (L : List (List Int)) : (csY L).length ≤ 1000000 ∧ ∀ c ∈ csY L, c.length ≤ 1000000 := by
  cases h : choiceB L with
  | false => unfold csY; rw [h]; exact ⟨by simp, by simp⟩
  | true =>
    have hg := (chk_parts h).2.2.2
    have e : csY L = chX L := by unfold csY; rw [h]; rfl
    rw [e]
    unfold goodB at hg
    simp only [Bool.and_eq_true, List.all_eq_true, decide_eq_true_eq] at hg
    exact ⟨by omega, fun c hc => by have := good_len_s (hg.2 c hc); omega⟩
theorem hall_sat {L : List (List Int)} (h : choiceB L = true) : csV L = (chN L : Int) ∧ csY L = chX L ∧ goodB (csV L) (csY L) = true ∧ (List.range (2 ^ (csV L).toNat)).any (modT (csY L)) = (fmR L).isSome ∧ (hsI L).isSome = !(fmR L).isSome := by
  obtain ⟨-, h2, -, h4⟩ := chk_parts h
  have e1 : csV L = (chN L : Int) := by unfold csV; rw [h]; rfl
  have e2 : csY L = chX L := by unfold csY; rw [h]; rfl
  refine ⟨e1, e2, by rw [e1, e2]; exact h4, ?_, h2⟩
  have e3 : fmR L = matchF L.length L [] := by unfold fmR; rw [h]; rfl
  rw [e1, e2, e3, Int.toNat_natCast]
  cases hm : matchF L.length L [] with
  | some r => rw [Option.isSome_some, List.any_eq_true]; exact ⟨bitF (selP L r) (chN L), List.mem_range.2 (bitF_lt _ _), match_model hm⟩
  | none =>
    rw [Option.isSome_none, List.any_eq_false]
    intro b _ hb
    have := model_match hb
    rw [hm] at this
    cases this
theorem hall_some {L : List (List Int)} {r : List Int} (h : choiceB L = true) (hr : fmR L = some r) : r.length = L.length ∧ modT (csY L) (bitF (selP L r) (chN L)) = true := by
  have e2 : csY L = chX L := by unfold csY; rw [h]; rfl
  have e3 : fmR L = matchF L.length L [] := by unfold fmR; rw [h]; rfl
  rw [e3] at hr
  rw [e2]
  exact ⟨(match_sound _ _ _ _ (by simp) hr).1, match_model hr⟩

theorem hall_len (L : List (List Int)) (hl : L.length ≤ 5) : ((hsI L).getD []).length ≤ 20 ∧ ((fmR L).getD []).length ≤ 20 := by
  cases h : choiceB L with
  | false => rw [(hall_no h).1, (hall_no h).2]; exact ⟨by simp, by simp⟩
  | true =>
    obtain ⟨-, -, h3, -⟩ := chk_parts h
    refine ⟨?_, ?_⟩
    · cases hs : hsI L with
      | none => simp
      | some sm => exact (h3 sm hs).2.2.1
    · cases hm : fmR L with
      | none => simp
      | some r => have := (hall_some h hm).1; simp only [Option.getD_some]; omega

theorem sel_step {L : List (List Int)} {r : List Int} {i k : Nat} {y : Int} (hi : i < L.length) (hk : k < L[i].length) (hy : r.getD i 0 = y) (hr : r.length = L.length) : bitF (selP L r) ((holT L i).length + k + 1) = if L[i][k] == y then bitF (selP L r) ((holT L i).length + k) ||| 2 ^ ((holT L i).length + k) else bitF (selP L r) ((holT L i).length + k) := by
  rw [bitF, selP_at hi hk hr, hy]

set_option maxRecDepth 100000 in
set_option maxHeartbeats 16000000 in
theorem FnHall_walk (ca : Option Addr) (cl cc : Nat) (w : World) (hc : CodeOk w ca cl) :
    Calls Try.prog 3 #[.slice ca cl cc] w fun e w' => e = .returned (.bool true) ∧ Below w.heap.size w w' := by
  have hcH := Lib.hid hc
  clear hc
  by_cases hbig : (65536 : Int) < (cl : Int)
  · go_enter Try.func3, Try.ntmps3
    go_wp2_with fail
    refine (rBig_any _ _ _ _).mono ?_
    rintro e w1 ⟨rfl, rfl⟩
    rw [decide_eq_true hbig]
    go_wp2_with fail
    go_ret
    exact ⟨rfl, bb _⟩
  have hsm : cl ≤ 65536 := by omega
  have hv := Lib.hid (decide_eq_false hbig)
  clear hbig
  go_enter Try.func3, Try.ntmps3
  go_wp2_with fail
  refine (rBig_any _ _ _ _).mono ?_
  rintro e w1 ⟨rfl, rfl⟩
  rw [hv.out]
  clear hv
  go_wp2_with fail
  refine (drawHall_any ca cl cc w1 hcH.out hsm).mono ?_
  rintro e w2 ⟨A, c, L, rfl, hX0, ⟨hl5, hl4⟩, hb2⟩
  have hX := Lib.hid hX0
  have hB2 := Lib.hid hb2
  have hlL : L.length ≤ 1000 := by omega
  have hls : ∀ l ∈ L, l.length ≤ 1000 := fun l hl => by have := hl4 l hl; omega
  have hls' := Lib.hid hls
  have q1 := Lib.hid (fun W (h : Below w2.heap.size w2 W) => implHallSet_any A c L W (hX0.grow h) hlL hls)
  have q2 := Lib.hid (fun W (h : Below w2.heap.size w2 W) => specHallSet_any A c L W (hX0.grow h) hlL hls)
  have q3 := Lib.hid (fun W (h : Below w2.heap.size w2 W) => implFirst_any A c L W (hX0.grow h) hlL hls)
  have q4 := Lib.hid (fun W (h : Below w2.heap.size w2 W) => specFirst_any A c L W (hX0.grow h) hlL hls)
  have q5 := fun W (h : Below w2.heap.size w2 W) => implChoice_any mustH A c L W (hX0.grow h) hlL hls
  have q6 := Lib.hid (fun W (h : Below w2.heap.size w2 W) => specChoice_any A c L W (hX0.grow h) hlL hls)
  have q7 := Lib.hid (fun W (h : Below w2.heap.size w2 W) => implIsChoice_any A c L W (hX0.grow h) hlL hls)
  have q8 := Lib.hid (fun (h : choiceB L = true) (B : Option Addr) (d : Nat) (sm : List Int) (F : List Nat) W (hb : Below w2.heap.size w2 W) (hy : Ty.int.row false W (.slice B sm.length d) sm F) (h1 : clauseB L.length sm = true) (h2 : sm.length ≤ 20) (h3 : ∀ i ∈ sm, 1 ≤ i ∧ i ≤ L.length) => isHallSet_at A c L B d sm F W (hX0.grow hb) hy h h1 h2 h3)
  obtain ⟨f1, f2, f3, f4⟩ := hall_facts L
  obtain ⟨hln1, hln2⟩ := hall_len L hl5
  rw [f2, f3, f4] at q5
  replace q5 := Lib.hid q5
  rw [f1] at q2
  have hsz := Lib.hid (hall_small L)
  have hno := Lib.hid (fun h : choiceB L = false => hall_no h)
  have hyes := Lib.hid (fun h : choiceB L = true => And.intro (hall_sat h) (chk_parts h).2.2.1)
  have hsome := Lib.hid (fun (h : choiceB L = true) r (hr : fmR L = some r) => hall_some h hr)
  generalize hsI L = o at *
  generalize fmR L = m at *
  generalize csV L = va at *
  generalize csY L = ys at *
  generalize choiceB L = told at *
  obtain ⟨ob, hob⟩ : ∃ x, o.isSome = x := ⟨_, rfl⟩
  obtain ⟨os, hos⟩ : ∃ x, o.getD [] = x := ⟨_, rfl⟩
  obtain ⟨mb, hmb⟩ : ∃ x, m.isSome = x := ⟨_, rfl⟩
  obtain ⟨ms, hms⟩ : ∃ x, m.getD [] = x := ⟨_, rfl⟩
  replace hob := Lib.hid hob
  replace hos := Lib.hid hos
  replace hmb := Lib.hid hmb
  replace hms := Lib.hid hms
  rw [hos.out] at hln1
  rw [hms.out] at hln2
  clear f1 f2 f3 f4 hX0 hb2 hls hl4
  go_wp2_with fail
  refine (q1.out _ (bb _)).mono ?_
  rintro e w3 ⟨D3, d3, F3, rfl, hr3, hb3⟩
  rw [hob.out, hos.out]
  rw [hos.out] at hr3
  have hB3 := Lib.hid hb3
  have hx3 := Lib.hid (fun W (h : Below w3.heap.size w3 W) => Ty.row_below hr3 h (Ty.row_lt hr3))
  obtain ⟨_, _, e3, hI3⟩ := ints_row hr3
  cases e3
  replace hI3 := Lib.hid hI3
  clear q1 hr3 hb3
  go_wp2_with fail
  refine (q2.out _ hB3.out).mono ?_
  rintro e w4 ⟨D4, d4, rfl, hI4, hb4⟩
  dsimp only at hI4 ⊢
  rw [hob.out, hos.out]
  rw [hos.out] at hI4
  have hB4 := Lib.hid (btr hB3.out hb4)
  have hr := Lib.hid (rInts_same D3 D4 d3 d4 os w4 (hI3.out.grow hb4) hI4 (by omega))
  have hE4 := Lib.hid hb4
  clear q2 hI4 hI3 hB3 hb4
  go_wp2_with fail
  refine hr.out.mono ?_
  rintro e w5 ⟨rfl, hb5⟩
  have hB5 := Lib.hid (btr hB4.out hb5)
  have hE5 := Lib.hid (btr hE4.out hb5)
  clear hr hb5 hB4 hE4
  go_wp2_with fail
  refine (q3.out _ hB5.out).mono ?_
  rintro e w6 ⟨D6, d6, rfl, hI6, hb6⟩
  rw [hmb.out, hms.out]
  rw [hms.out] at hI6
  have hB6 := Lib.hid (btr hB5.out hb6)
  have hE6 := Lib.hid (btr hE5.out hb6)
  replace hI6 := Lib.hid hI6
  clear q3 hb6 hB5 hE5
  go_wp2_with fail
  refine (q4.out _ hB6.out).mono ?_
  rintro e w7 ⟨D7, d7, rfl, hI7, hb7⟩
  rw [hmb.out, hms.out]
  rw [hms.out] at hI7
  have hr := Lib.hid (rInts_same D6 D7 d6 d7 ms w7 (hI6.out.grow hb7) hI7 (by omega))
  have hB7 := Lib.hid (btr hB6.out hb7)
  have hE7 := Lib.hid (btr hE6.out hb7)
  have hG7 := Lib.hid hb7
  clear q4 hI7 hB6 hE6 hb7
  go_wp2_with fail
  refine hr.out.mono ?_
  rintro e w8 ⟨rfl, hb8⟩
  have hB8 := Lib.hid (btr hB7.out hb8)
  have hE8 := Lib.hid (btr hE7.out hb8)
  have hG8 := Lib.hid (btr hG7.out hb8)
  clear hr hb8 hB7 hE7 hG7
  go_wp2_with fail
  refine (q5.out _ hB8.out).mono ?_
  rintro e w9 ⟨B9, c9, F9, rfl, hr9, hb9⟩
  have S9 := Lib.hid ((Sp.of_below (btr hB2.out (btr hB8.out hb9))).alloc_box #[.int .i64 va, .slice B9 ys.length c9] 31)
  have hx9 := Lib.hid (fun W (h : Below w9.heap.size w9 W) => Ty.row_below hr9 h (Ty.row_lt hr9))
  have hK9 := Lib.hid (bal (bb w9) (.cells #[.int .i64 va, .slice B9 ys.length c9] 31))
  have hB9 := Lib.hid (bal (btr hB8.out hb9) (.cells #[.int .i64 va, .slice B9 ys.length c9] 31))
  have hE9 := Lib.hid (bal (btr hE8.out hb9) (.cells #[.int .i64 va, .slice B9 ys.length c9] 31))
  have hG9 := Lib.hid (bal (btr hG8.out hb9) (.cells #[.int .i64 va, .slice B9 ys.length c9] 31))
  clear q5 hr9 hb9 hB8 hE8 hG8
  go_wp2_with fail
  refine (q6.out _ hB9.out).mono ?_
  rintro e w10 ⟨B10, c10, F10, rfl, hr10, hb10⟩
  have S10 := Lib.hid ((S9.out.grow hb10).alloc_box #[.int .i64 va, .slice B10 ys.length c10] 31)
  have hK10 := Lib.hid (bal (btr hK9.out hb10) (.cells #[.int .i64 va, .slice B10 ys.length c10] 31))
  have hB10 := Lib.hid (bal (btr hB9.out hb10) (.cells #[.int .i64 va, .slice B10 ys.length c10] 31))
  have hE10 := Lib.hid (bal (btr hE9.out hb10) (.cells #[.int .i64 va, .slice B10 ys.length c10] 31))
  have hG10 := Lib.hid (bal (btr hG9.out hb10) (.cells #[.int .i64 va, .slice B10 ys.length c10] 31))
  obtain ⟨_, _, e9, hC9⟩ := cls_row (hx9.out _ hK10.out)
  obtain ⟨_, _, e10, hC10⟩ := cls_row (Ty.row_below hr10 (bal (bb w10) (.cells #[.int .i64 va, .slice B10 ys.length c10] 31)) (Ty.row_lt hr10))
  cases e9
  cases e10
  have hvc := Lib.hid (rCnf_same va B9 B10 c9 c10 ys _ hC9 hC10 hsz.out.1 hsz.out.2)
  have hic := Lib.hid (q7.out _ hB10.out)
  have k0 := S10.out.cell (i := 1) rfl (o := 0) rfl
  have k1 := S10.out.cell (i := 1) rfl (o := 1) rfl
  have j0 := S10.out.cell (i := 0) rfl (o := 0) rfl
  have j1 := S10.out.cell (i := 0) rfl (o := 1) rfl
  clear q6 q7 S9 hr10 hb10 hK9 hB9 hE9 hG9 hC9 hC10 hsz
  go_wp2_with fail
  refine hic.out.mono ?_
  rintro e w11 ⟨rfl, rfl⟩
  go_wp2_with fail
  refine hvc.out.mono ?_
  rintro e w11 ⟨rfl, hb11⟩
  have S11 := Lib.hid (S10.out.grow hb11)
  have hK11 := Lib.hid (btr hK10.out hb11)
  have hB11 := Lib.hid (btr hB10.out hb11)
  have hE11 := Lib.hid (btr hE10.out hb11)
  have hG11 := Lib.hid (btr hG10.out hb11)
  clear hic hvc k0 k1 j0 j1 hb11 S10 hK10 hB10 hE10 hG10
  cases told
  · obtain ⟨rfl, rfl⟩ := hno.out rfl
    have e1 : ob = false := hob.out.symm
    have e2 : mb = false := hmb.out.symm
    subst e1
    subst e2
    have hZ := Lib.hid S11.out.below
    clear hyes hsome q8 hno hob hos hmb hms S11 hK11 hB11 hE11 hG11
    go_wp2_with fail
    go_ret
    exact ⟨rfl, hZ.out⟩
  obtain ⟨⟨hva, hys, hgd, hsat, hopp⟩, hset⟩ := hyes.out rfl
  have hso := Lib.hid (fun r hr => hsome.out rfl r hr)
  rw [hob.out, hmb.out] at hopp
  rw [hmb.out] at hsat
  have hs1 := isSatisfiable_any va (.slice B9 ys.length c9) ys F9 w11 (hx9.out _ hK11.out)
  rw [hgd, hsat, Bool.true_and] at hs1
  replace hs1 := Lib.hid hs1
  replace hset := Lib.hid hset
  replace hva := Lib.hid hva
  replace hys := Lib.hid hys
  replace hgd := Lib.hid hgd
  have k0 := S11.out.cell (i := 1) rfl (o := 0) rfl
  have k1 := S11.out.cell (i := 1) rfl (o := 1) rfl
  clear hsat hyes hsome hno
  subst hopp
  cases mb
  · obtain ⟨sm, rfl⟩ := Option.isSome_iff_exists.1 (show o.isSome = true from hob.out)
    have e1 : sm = os := hos.out
    subst e1
    obtain ⟨h1, h2, h3, h4⟩ := hset.out sm rfl
    replace h4 := Lib.hid h4
    go_wp2_with fail
    refine hs1.out.mono ?_
    rintro e w12 ⟨rfl, hb12⟩
    have hq := q8.out trivial D3 d3 sm F3 w12 (btr hB11.out hb12) (hx3.out _ (btr hE11.out hb12)) h1 h3 h4.out
    rw [h2] at hq
    replace hq := Lib.hid hq
    have S12 := Lib.hid (S11.out.grow hb12)
    clear hs1 k0 k1 S11 q8 hx3 hb12 hB11 hE11 hK11 hG11 h1 h2 h4
    go_wp2_with fail
    refine hq.out.mono ?_
    rintro e w13 ⟨rfl, hb13⟩
    have hZ := Lib.hid (S12.out.grow hb13).below
    clear hq S12 hb13
    go_wp2_with fail
    go_ret
    exact ⟨rfl, hZ.out⟩
  · obtain ⟨r, rfl⟩ := Option.isSome_iff_exists.1 (show m.isSome = true from hmb.out)
    have e1 : r = ms := hms.out
    subst e1
    obtain ⟨hrl, hmod⟩ := hso.out r rfl
    go_wp2_with fail
    refine hs1.out.mono ?_
    rintro e w12 ⟨rfl, hb12⟩
    have S12 := Lib.hid (S11.out.grow hb12)
    have hX12 := Lib.hid (hX.out.grow (btr hB11.out hb12))
    have hI12 := Lib.hid (hI6.out.grow (btr hG11.out hb12))
    have hx12 := Lib.hid (hx9.out _ (btr hK11.out hb12))
    clear hs1 k0 k1 S11 q8 hx3 hb12 hB11 hE11 hK11 hG11 hX hI6 hx9 hset hso hos hob hms hmb
    have hee : ((r.length : Int) == (L.length : Int)) = true := by simp; omega
    have hee2 : r.length = L.length := hrl
    have hrl' := Lib.hid hrl
    have hN12 : chN L ≤ 12 := by
      have := good_cnf (show goodB ((chN L : Nat) : Int) ys = true by rw [← hva.out]; exact hgd.out)
      omega
    replace hrl := Lib.hid hrl
    replace hmod := Lib.hid hmod
    go_wp2_with fail
    clear hee
    replace hee2 := Lib.hid hee2
    go_loopw [20, 21, 22] (fun v20 v21 v22 wr => ∃ i a b : Nat, i ≤ L.length ∧ v22 = .int .i64 i ∧ v21 = .int .i64 a ∧ v20 = .int .i64 b ∧ Hid (a = (holT L i).length) ∧ Hid (b = bitF (selP L r) a) ∧ Hid (Below w12.heap.size w12 wr)) (fun _ _ v22 _ => L.length - (intOf v22).toNat)
    case atStart => exact ⟨0, 0, 0, Nat.zero_le _, rfl, rfl, rfl, rfl, rfl, bb _⟩
    case round =>
      obtain ⟨i, a, b, hi, rfl, rfl, rfl, ha, hb, HB⟩ := hrel
      by_cases hlt : i < L.length
      · obtain ⟨b1, o1, D, dc, hA, m00, hI0⟩ := hX12.out.at_ i hlt
        subst hA
        have m0 := (HB.out.cell (World.block_lt_of_cell? _ _ m00)).trans m00
        have hlb := hls'.out _ (List.getElem_mem hlt)
        have m00' := Lib.hid m00
        have hI0' := Lib.hid hI0
        have hir : i < r.length := by have := hrl'.out; omega
        obtain ⟨y, hy⟩ : ∃ y, r[i] = y := ⟨_, rfl⟩
        have hst := Lib.hid (fun k (hk : k < L[i].length) => sel_step hlt hk (show r.getD i 0 = y by rw [List.getD_eq_getElem?_getD, List.getElem?_eq_getElem hir]; exact hy) hrl'.out)
        have hend := Lib.hid (holT_succ hlt)
        have hbd : Hid (∀ k, k < L[i].length → (holT L i).length + k < 12) := fun k hk => by
          obtain ⟨-, -, h⟩ := hol_get hlt hk L.length hlt (Nat.le_refl _)
          have : (holT L L.length).length ≤ 12 := hN12
          omega
        obtain ⟨b3, o3, hD6, p00⟩ := hI12.out.at_ i hir
        subst hD6
        rw [hy] at p00
        have p00' := Lib.hid p00
        clear hy
        generalize L[i] = l at *
        clear m00 p00 hI0
        rename World => wo
        go_wp2_with fail
        clear m0
        go_loopw [20, 21, 23] (fun v20 v21 v23 wr => ∃ k c d : Nat, k ≤ l.length ∧ v23 = .int .i64 k ∧ v21 = .int .i64 c ∧ v20 = .int .i64 d ∧ Hid (c = (holT L i).length + k) ∧ Hid (d = bitF (selP L r) c) ∧ Hid (Below w12.heap.size w12 wr)) (fun _ _ v23 _ => l.length - (intOf v23).toNat)
        case atStart => exact ⟨0, a, b, Nat.zero_le _, rfl, rfl, rfl, by unfold Hid; have := ha.out; omega, hb, HB⟩
        case round =>
          clear HB ha hb
          obtain ⟨k, c', d, hk, rfl, rfl, rfl, hc', hd, HB⟩ := hrel
          have m0 := (HB.out.cell (World.block_lt_of_cell? _ _ m00'.out)).trans m00'.out
          by_cases hlt2 : k < l.length
          · obtain ⟨b2, o2, hE, m22⟩ := hI0'.out.at_ k hlt2
            subst hE
            have m2 := (HB.out.cell (World.block_lt_of_cell? _ _ m22)).trans m22
            have p0 := (HB.out.cell (World.block_lt_of_cell? _ _ p00'.out)).trans p00'.out
            have k0 := cell_regrown m0
            have k2 := cell_regrown m2
            have k3 := cell_regrown p0
            have hs := hst.out k hlt2
            rw [← hc'.out, ← hd.out] at hs
            have hlt2' := Lib.hid hlt2
            have hc12 : c' < 12 := by have := hbd.out k hlt2; have := hc'.out; omega
            have hdl : d < 2 ^ c' := by rw [hd.out]; exact bitF_lt _ _
            have hc2 : Hid (c' + 1 = (holT L i).length + (k + 1)) := by unfold Hid; have := hc'.out; omega
            have hpw := pow12 (v := c') (by omega)
            have hP62 : 2 ^ c' < 2 ^ 62 := Nat.lt_of_le_of_lt hpw.2 (by decide)
            have hor := (i64_nat d (2 ^ c') (Nat.lt_trans hdl hP62) hP62).1
            generalize l[k] = x at *
            clear m22 m2 p0
            obtain ⟨e, he⟩ : ∃ e, d ||| 2 ^ c' = e := ⟨_, rfl⟩
            rw [he] at hs hor
            have hsh := hpw.1
            clear hpw hd hP62
            replace hdl := Lib.hid hdl
            generalize 2 ^ c' = P at *
            by_cases hxy : x = y
            · have hxb : (x == y) = true := by simp [hxy]
              have hd2 : Hid (e = bitF (selP L r) (c' + 1)) := by unfold Hid; rw [hs, hxb]; rfl
              replace hxy := Lib.hid hxy
              replace hs := Lib.hid hs
              replace he := Lib.hid he
              go_wp2_with fail
              refine wp_region_quiet_below (by kernel_rfl) (by kernel_rfl) ?_
              repeat (any_goals (go_big_quiet_step (fail)))
              refine wpQuiet_nil ?_
              rintro w3 ⟨p, rfl⟩
              have HB2 := Lib.hid (btr HB.out (below_regrown _ p.d p.os))
              clear HB k0 k2 k3 m0
              go_wp2_with fail
              go_roundw
              case rel => exact ⟨k + 1, c' + 1, e, hlt2'.out, by go_num, by go_num, rfl, hc2, hd2, HB2⟩
              case measure => have := hlt2'.out; simp [intOf]; omega
            · have hxb : (x == y) = false := by simp [hxy]
              have hd2 : Hid (d = bitF (selP L r) (c' + 1)) := by unfold Hid; rw [hs, hxb]; rfl
              replace hxy := Lib.hid hxy
              replace hs := Lib.hid hs
              replace he := Lib.hid he
              go_wp2_with fail
              refine wp_region_quiet_below (by kernel_rfl) (by kernel_rfl) ?_
              repeat (any_goals (go_big_quiet_step (fail)))
              refine wpQuiet_nil ?_
              rintro w3 ⟨p, rfl⟩
              have HB2 := Lib.hid (btr HB.out (below_regrown _ p.d p.os))
              clear HB k0 k2 k3 m0 hor hsh
              go_wp2_with fail
              go_roundw
              case rel => exact ⟨k + 1, c' + 1, d, hlt2'.out, by go_num, by go_num, rfl, hc2, hd2, HB2⟩
              case measure => have := hlt2'.out; simp [intOf]; omega
          · obtain rfl : k = l.length := by omega
            have hc2 : Hid (c' = (holT L (i + 1)).length) := by unfold Hid; rw [hend.out, List.length_append]; exact hc'.out
            go_wp2_with fail
            go_roundw
            case rel => exact ⟨i + 1, c', d, by omega, by go_num, rfl, rfl, hc2, hd, HB⟩
            case measure => simp [intOf]; omega
      · obtain rfl : i = L.length := by omega
        have haN : a = chN L := ha.out
        subst haN
        have hbl : b < 2 ^ chN L := by rw [hb.out]; exact bitF_lt _ _
        have hv := hva.out
        subst hv
        have hm := isModelH_any (chN L) b (.slice B9 ys.length c9) ys F9 _ (Ty.row_below hx12.out HB.out (Ty.row_lt hx12.out)) hgd.out hbl
        rw [hb.out, hmod.out, ← hb.out] at hm
        replace hm := Lib.hid hm
        have S13 := Lib.hid (S12.out.grow HB.out)
        have k0 := S13.out.cell (i := 1) rfl (o := 0) rfl
        have k1 := S13.out.cell (i := 1) rfl (o := 1) rfl
        clear HB ha hb hbl S12 hx12 hX12 hI12
        go_wp2_with fail
        refine hm.out.mono ?_
        rintro e w14 ⟨rfl, hb14⟩
        have hZ := Lib.hid (S13.out.grow hb14).below
        clear hm S13 hb14 k0 k1
        go_wp2_with fail
        go_ret
        exact ⟨rfl, hZ.out⟩
end Go.Proofs.Yteabiokhbaekpaa
