/- Lemmas and contracts for a law, put together out of several texts: HlU HlQ HlN HlM HlG HlH HlT. -/
import Derived.Test.YteabiokhbaekpaaMg11
import Derived.Test.YteabiokhbaekpaaMg12
import Derived.Test.YteabiokhbaekpaaMg13
import Derived.Test.YteabiokhbaekpaaMg14
import Derived.Test.YteabiokhbaekpaaMg8
import Derived.Test.YteabiokhbaekpaaMg9
import Derived.Test.YteabiokhbaekpaaMg5
import Derived.Test.YteabiokhbaekpaaMg2
import Derived.Test.YteabiokhbaekpaaMg1
import Derived.Test.YteabiokhbaekpaaMg4
import Derived.Test.YteabiokhbaekpaaMg6
/- Plain facts: what holds of all choices. -/
namespace Go.Proofs.Yteabiokhbaekpaa
open Go.RowKit

theorem chk4 : (allL 4).all chkL = true := by
  rw [List.all_eq_true]
  intro L hL
  obtain ⟨l, hl, hL⟩ := List.mem_flatMap.1 (show L ∈ lists8.flatMap fun l => (allL 3).map (l :: ·) from hL)
  obtain ⟨M, hM, rfl⟩ := List.mem_map.1 hL
  simp only [lists8, List.mem_cons, List.mem_nil_iff, or_false] at hl
  rcases hl with rfl | rfl | rfl | rfl | rfl | rfl | rfl | rfl
  · exact List.all_eq_true.1 chk4_0 M hM
  · exact List.all_eq_true.1 chk4_1 M hM
  · exact List.all_eq_true.1 chk4_2 M hM
  · exact List.all_eq_true.1 chk4_3 M hM
  · exact List.all_eq_true.1 chk4_4 M hM
  · exact List.all_eq_true.1 chk4_5 M hM
  · exact List.all_eq_true.1 chk4_6 M hM
  · exact List.all_eq_true.1 chk4_7 M hM
/-- What holds of all choices. -/
theorem chk_all {L : List (List Int)} (h : choiceB L = true) : chkL L = true := by
  obtain ⟨h1, h2⟩ := choice_parts h
  have hm := all_mem h2
  have h3 : L.length = 1 ∨ L.length = 2 ∨ L.length = 3 ∨ L.length = 4 := by omega
  rcases h3 with e | e | e | e <;> rw [e] at hm
  · exact List.all_eq_true.1 chk1 L hm
  · exact List.all_eq_true.1 chk2 L hm
  · exact List.all_eq_true.1 chk3 L hm
  · exact List.all_eq_true.1 chk4 L hm
theorem chk_parts {L : List (List Int)} (h : choiceB L = true) : hsS L = ((hsI L).getD [], (hsI L).isSome) ∧ ((hsI L).isSome = !(fmR L).isSome) ∧ (∀ sm, hsI L = some sm → clauseB L.length sm = true ∧ hallB L sm = true ∧ sm.length ≤ 20 ∧ ∀ i ∈ sm, 1 ≤ i ∧ i ≤ L.length) ∧ goodB (chN L) (chX L) = true := by
  have hc := chk_all h
  unfold chkL at hc
  unfold hsS hsI fmR
  rw [if_pos h, if_pos h, if_pos h]
  simp only [Bool.and_eq_true, beq_iff_eq] at hc
  obtain ⟨⟨⟨h1, h2⟩, h3⟩, h4⟩ := hc
  refine ⟨h1, ?_, fun sm hs => ?_, h4⟩
  · revert h2
    cases ((csL L.length L.length).find? (hallB L)).isSome <;> cases (matchF L.length L []).isSome <;> simp
  · rw [hs] at h3
    have hm := List.mem_of_find?_eq_some hs
    have h1 := (choice_parts h).1
    unfold csL at hm
    obtain ⟨t, ht, hm⟩ := List.mem_flatMap.1 hm
    have ht := List.mem_range.1 ht
    obtain ⟨h5, h6⟩ := cs_mem hm
    exact ⟨by simpa using h3, List.find?_some hs, by omega, h6⟩
end Go.Proofs.Yteabiokhbaekpaa

/- Contract: the Cnf of a choice, in the reference. -/
namespace Go.Proofs.Yteabiokhbaekpaa
open Go.RowKit

def csV (L : List (List Int)) : Int := if choiceB L then chN L else 0
def csY (L : List (List Int)) : List (List Int) := if choiceB L then chX L else []
theorem Sp.own_two {w0 w : World} {ps : List Asn} (h : Sp w0 w ps) (a b : Int) : Sp w0 (w.alloc (.cells #[.int .i64 a, .int .i64 b] 3)) (OwnL (some ⟨w.heap.size, 0, none⟩) 2 [a, b] :: ps) :=
  h.own_new (bal (bb _) _) ⟨rfl, .inr ⟨w.heap.size, 2, #[.int .i64 a, .int .i64 b], rfl, Nat.zero_le _, heap_alloc_new w _, Nat.le_refl _, by decide, by simp, by simp⟩⟩ (fun g hg => by
    have : w.heap.size = g := by simpa [Value.ownBlock] using hg
    omega)

set_option maxRecDepth 100000 in
set_option maxHeartbeats 8000000 in
theorem specChoice_any (A : Option Addr) (c : Nat) (L : List (List Int)) (w : World) (hx : ClsAt w A L) (hl : L.length ≤ 1000) (hs : ∀ l ∈ L, l.length ≤ 1000) :
    Calls Try.prog 12 #[.slice A L.length c] w (CnfR w (csV L) (csY L) (choiceB L)) := by
  obtain ⟨i0, hi0, hy0, hy1, hy2⟩ := info_parts infoInt
  obtain ⟨i1, hi1, hrz0, hrz1, hrz2⟩ := info_parts infoRow
  have Sa := (Sp.start w).alloc_box #[.int .i64 0, .slice none 0 0] 31
  have hic := Lib.hid (fun W (h : Below w.heap.size w W) => l28Choice_any A c L W (hx.grow h) hl hs)
  have hBa := Lib.hid Sa.below
  unfold csV csY
  cases h : choiceB L with
  | false =>
    rw [h] at hic
    rw [if_neg (by simp), if_neg (by simp)]
    replace Sa := Lib.hid Sa
    clear h
    go_enter Try.func12, Try.ntmps12
    go_wp2_with fail
    refine (hic.out _ hBa.out).mono ?_
    rintro e w1 ⟨rfl, hb1⟩
    have Sb := Sa.out.grow hb1
    have j0 := Sb.cell (i := 0) rfl (o := 0) rfl
    have j1 := Sb.cell (i := 0) rfl (o := 1) rfl
    have f0 := Sb.frozen (i := 0) rfl 0
    have f1 := Sb.frozen (i := 0) rfl 1
    have SF := (Sb.store (i := 0) rfl 0 (.int .i64 0)).store (i := 0) rfl 1 (.slice none 0 0)
    have q0 := SF.cell (i := 0) rfl (o := 0) rfl
    have q1 := SF.cell (i := 0) rfl (o := 1) rfl
    have hZ := Lib.hid SF.below
    clear hb1 Sb SF Sa
    go_wp2_with fail
    exact bodyPost_ret (v := .tuple #[.agg #[.int .i64 0, .slice none 0 0], .bool false]) (by simp [results, Try.results12, go_sem, q0, q1]) rfl ⟨none, 0, [], rfl, Ty.row_nil _ _ _ _ _ (by decide), hZ.out⟩
  | true =>
    rw [h] at hic
    rw [if_pos rfl, if_pos rfl]
    obtain ⟨h4, hlst⟩ := choice_parts h
    have hX := Lib.hid hx
    replace hlst := Lib.hid hlst
    replace Sa := Lib.hid Sa
    clear h hx
    generalize hn : L.length = n at *
    have hn' := Lib.hid hn
    clear hn
    go_enter Try.func12, Try.ntmps12
    go_wp2_with fail
    refine (hic.out _ hBa.out).mono ?_
    rintro e w1 ⟨rfl, hb1⟩
    have S0 := ((((Sa.out.grow hb1).rows_made Ty.int 26).alloc_box #[.int .i64 0, .slice (some ⟨w1.heap.size, 0, none⟩) 0 0] 31).own_made 3 1).own_made 3 1
    simp only [World.size_alloc] at S0
    have S1 := Lib.hid (Sp.pick [1, 0, 1, 0, 0] S0 rfl)
    obtain ⟨fb, hfb⟩ : ∃ fb, w1.heap.size + 1 = fb := ⟨_, rfl⟩
    rw [hfb] at S1
    clear S0 Sa hb1 hic hBa
    go_wp2_with fail
    clear hfb
    go_loopw [5, 6, 7] (fun v5 v6 v22 wr => ∃ (i : Nat) (D1 D2 B : Option Addr) (d1 d2 bc : Nat) (cs : List Value), i ≤ n ∧ v22 = .int .i64 i ∧ v5 = .slice D1 (pigT L i).length d1 ∧ v6 = .slice D2 (holT L i).length d2 ∧ Hid (Sp w wr [OwnL D1 d1 (pigT L i), OwnL D2 d2 (holT L i), Rows Ty.int 26 (.slice B (nodT L i).length bc) cs (nodT L i), Box fb 31 #[.int .i64 (holT L i).length, .slice B (nodT L i).length bc], Box w.heap.size 31 #[.int .i64 0, .slice none 0 0]])) (fun _ _ v22 _ => n - (intOf v22).toNat)
    case atStart => exact ⟨0, _, _, _, 0, 0, 0, [], Nat.zero_le _, rfl, rfl, rfl, S1⟩
    case round =>
      clear S1
      obtain ⟨i, D1, D2, B, d1, d2, bc, cs, hi, rfl, rfl, rfl, HS⟩ := hrel
      by_cases hlt : i < n
      · --{ one
        have hiL : i < L.length := by rw [hn'.out]; exact hlt
        obtain ⟨b1, o1, D3, d3, hA, m00, hI0⟩ := hX.out.at_ i hiL
        subst hA
        have m0 := (HS.out.below.cell (World.block_lt_of_cell? _ _ m00)).trans m00
        have hI := Lib.hid (fun W (h : Below w.heap.size w W) => hI0.grow h)
        have m00' := Lib.hid m00
        have hI' := Lib.hid (fun k hk => hI0.at_ k hk)
        clear m00 hI0
        have hl3 := lst_len (hlst.out _ (List.getElem_mem hiL))
        have hPs := Lib.hid (pigT_succ hiL)
        have hHs := Lib.hid (holT_succ hiL)
        have hNs := Lib.hid (nodT_succ hiL)
        have hpl : Hid ((pigT L i).length = (holT L i).length) := pig_hol (by omega)
        have hhs : Hid ((holT L i).length ≤ 3 * i) := hol_small hlst.out (by omega)
        have hnl := Lib.hid (nodT_len L i)
        generalize L[i] = l at *
        generalize pigT L i = P0 at *
        generalize holT L i = H0 at *
        generalize nodT L i = X at *
        obtain ⟨a, ha⟩ : ∃ a, H0.length = a := ⟨_, rfl⟩
        have hab : a ≤ 12 := by have := hhs.out; omega
        have S2 := Lib.hid (HS.out.own_made 3 1)
        have ha' := Lib.hid ha
        have hpl' : Hid (P0.length = a) := hpl.out.trans ha
        have e0 : Hid (seqC a 0 = []) := rfl
        have S3 : Hid (Sp w (wr.alloc (.cells #[] 3)) [OwnL (some ⟨wr.heap.size, 0, none⟩) 0 [], OwnL D1 d1 P0, OwnL D2 d2 H0, Rows Ty.int 26 (.slice B X.length bc) cs X, Box fb 31 #[.int .i64 (a : Int), .slice B X.length bc], Box w.heap.size 31 #[.int .i64 0, .slice none 0 0]]) := by rw [← ha]; exact S2.out
        clear HS S2 hpl hhs ha
        rename World => wo
        go_wp2_with fail
        clear m0
        go_loopw [5, 6, 8, 9] (fun v5 v6 v9 v29 wr => ∃ (k : Nat) (V : Int) (zs ps hs : List Int) (DC DP DH : Option Addr) (dc dp dh : Nat), k ≤ l.length ∧ v29 = .int .i64 k ∧ v9 = .slice DC zs.length dc ∧ v5 = .slice DP ps.length dp ∧ v6 = .slice DH hs.length dh ∧ Hid (V = (a : Int) + k) ∧ Hid (zs = seqC a k) ∧ Hid (ps = P0 ++ List.replicate k (i : Int)) ∧ Hid (hs = H0 ++ l.take k) ∧ Hid (Sp w wr [OwnL DC dc zs, OwnL DP dp ps, OwnL DH dh hs, Rows Ty.int 26 (.slice B X.length bc) cs X, Box fb 31 #[.int .i64 V, .slice B X.length bc], Box w.heap.size 31 #[.int .i64 0, .slice none 0 0]])) (fun _ _ _ v29 _ => l.length - (intOf v29).toNat)
        case atStart => exact ⟨0, a, [], P0, H0, _, D1, D2, 0, d1, d2, Nat.zero_le _, rfl, rfl, rfl, rfl, by unfold Hid; simp, e0.out.symm, by unfold Hid; simp, by unfold Hid; simp, S3⟩
        case round =>
          clear S3
          obtain ⟨k, V, zs, ps, hs, DC, DP, DH, dc, dp, dh, hk, rfl, rfl, rfl, rfl, hV, hzs, hps, hhs, HS⟩ := hrel
          have m0 := (HS.out.below.cell (World.block_lt_of_cell? _ _ m00'.out)).trans m00'.out
          by_cases hlt2 : k < l.length
          · obtain ⟨b2, o2, hE, m22⟩ := hI'.out k hlt2
            subst hE
            have m2 := (HS.out.below.cell (World.block_lt_of_cell? _ _ m22)).trans m22
            have m22' := Lib.hid m22
            clear m22
            have hVb : 0 ≤ V ∧ V ≤ 20 := by have := hV.out; omega
            have hz12 : zs.length ≤ 12 := by rw [hzs.out, seqC_len]; omega
            have hp12 : ps.length ≤ 24 := by rw [hps.out, List.length_append, List.length_replicate, hpl'.out]; omega
            have hh12 : hs.length ≤ 24 := by rw [hhs.out, List.length_append, List.length_take, ha'.out]; omega
            have hz2 : Hid (zs ++ [V + 1] = seqC a (k + 1)) := by unfold Hid; rw [seqC_succ, hzs.out, hV.out]
            have hp2 : Hid (ps ++ [(i : Int)] = P0 ++ List.replicate (k + 1) (i : Int)) := by unfold Hid; rw [hps.out, List.replicate_succ', List.append_assoc]
            have hh2 : Hid (hs ++ [l[k]] = H0 ++ l.take (k + 1)) := by unfold Hid; rw [hhs.out, List.take_succ_eq_append_getElem hlt2, List.append_assoc]
            have hV2 : Hid (V + 1 = (a : Int) + ((k + 1 : Nat) : Int)) := by unfold Hid; have := hV.out; omega
            generalize l[k] = j at *
            have c0 := HS.out.cell (i := 4) rfl (o := 0) rfl
            have f0 := HS.out.frozen (i := 4) rfl 0
            have S2 := HS.out.store (i := 4) rfl 0 (.int .i64 (V + 1))
            have c1 := S2.cell (i := 4) rfl (o := 0) rfl
            replace S2 := Lib.hid S2
            clear HS hV hzs hps hhs
            have S3 := S2.out.alloc_box #[.int .i64 (V + 1)] 3
            (try simp only [World.size_setCell] at S3)
            have kB := S3.cell (i := 0) rfl (o := 0) rfl
            replace S3 := Lib.hid S3
            clear S2
            go_wp2_with (at_builtin; refine wpList_append_src rfl _ _ rfl Try.underlying26 hi0 hy0 hy1 hy2 rfl (by decide) _ _ _ rfl (S3.out.own (i := 1) rfl) _ 1 1 [.int .i64 (V + 1)] rfl (Src.one kB) (by simp [Value.oneCell']) ?c3 ?c4 ?_)
            case c3 => unfold maxLen; omega
            case c4 => omega
            intro vY wY hownY hgY hatY
            have S4 := (S3.out.own_push (i := 1) rfl (bb _) hownY hgY (by simpa using hatY)).tail
            obtain ⟨aY, cY, rfl⟩ := own_slice hownY
            have S5 := Lib.hid (ownI_snoc (d := zs) (x := (V + 1)) S4)
            clear S3 S4 kB hownY hgY hatY
            have hlen : zs.length + 1 = (zs ++ [(V + 1)]).length := by simp
            rw [hlen]
            replace hlen := Lib.hid hlen
            clear hlen c0 f0 c1 m2 m0
            generalize aY = aC at *
            generalize cY = cC at *
            generalize zs ++ [V + 1] = z2 at *
            have S6 := Lib.hid (Sp.pick [1, 0, 0, 0, 0, 0] S5.out rfl)
            clear S5
            have S3 := S6.out.alloc_box #[.int .i64 (i : Int)] 3
            (try simp only [World.size_setCell] at S3)
            have kB := S3.cell (i := 0) rfl (o := 0) rfl
            replace S3 := Lib.hid S3
            clear S6
            go_wp2_with (at_builtin; refine wpList_append_src rfl _ _ rfl Try.underlying26 hi0 hy0 hy1 hy2 rfl (by decide) _ _ _ rfl (S3.out.own (i := 1) rfl) _ 1 1 [.int .i64 (i : Int)] rfl (Src.one kB) (by simp [Value.oneCell']) ?c3 ?c4 ?_)
            case c3 => unfold maxLen; omega
            case c4 => omega
            intro vY wY hownY hgY hatY
            have S4 := (S3.out.own_push (i := 1) rfl (bb _) hownY hgY (by simpa using hatY)).tail
            obtain ⟨aY, cY, rfl⟩ := own_slice hownY
            have S5 := Lib.hid (ownI_snoc (d := ps) (x := (i : Int)) S4)
            clear S3 S4 kB hownY hgY hatY
            have hlen : ps.length + 1 = (ps ++ [(i : Int)]).length := by simp
            rw [hlen]
            replace hlen := Lib.hid hlen
            clear hlen
            generalize aY = aP at *
            generalize cY = cP at *
            generalize ps ++ [(i : Int)] = p2 at *
            have S7 := Lib.hid (Sp.pick [2, 0, 0, 0, 0, 0] S5.out rfl)
            clear S5
            have m0 := (S7.out.below.cell (World.block_lt_of_cell? _ _ m00'.out)).trans m00'.out
            have m2 := (S7.out.below.cell (World.block_lt_of_cell? _ _ m22'.out)).trans m22'.out
            have S3 := S7.out.alloc_box #[.int .i64 j] 3
            (try simp only [World.size_setCell] at S3)
            have kB := S3.cell (i := 0) rfl (o := 0) rfl
            replace S3 := Lib.hid S3
            clear S7
            go_wp2_with (at_builtin; refine wpList_append_src rfl _ _ rfl Try.underlying26 hi0 hy0 hy1 hy2 rfl (by decide) _ _ _ rfl (S3.out.own (i := 1) rfl) _ 1 1 [.int .i64 j] rfl (Src.one kB) (by simp [Value.oneCell']) ?c3 ?c4 ?_)
            case c3 => unfold maxLen; omega
            case c4 => omega
            intro vY wY hownY hgY hatY
            have S4 := (S3.out.own_push (i := 1) rfl (bb _) hownY hgY (by simpa using hatY)).tail
            obtain ⟨aY, cY, rfl⟩ := own_slice hownY
            have S5 := Lib.hid (ownI_snoc (d := hs) (x := j) S4)
            clear S3 S4 kB hownY hgY hatY
            have hlen : hs.length + 1 = (hs ++ [j]).length := by simp
            rw [hlen]
            replace hlen := Lib.hid hlen
            clear m0 m2
            clear hlen
            generalize aY = aH at *
            generalize cY = cH at *
            generalize hs ++ [j] = h2 at *
            have S8 := Lib.hid (Sp.pick [2, 1, 0, 0, 0, 0] S5.out rfl)
            clear S5
            go_wp2_with fail
            go_roundw
            case rel => exact ⟨k + 1, V + 1, z2, p2, h2, aC, aP, aH, cC, cP, cH, by omega, by go_num, rfl, rfl, rfl, hV2, hz2, hp2, hh2, S8⟩
            case measure => simp [intOf]; omega
          · obtain rfl : k = l.length := by omega
            have hzz := hzs.out
            have hgd : Hid (GoodS zs) := by unfold Hid; rw [hzz]; exact seqC_good (by omega)
            have hzI : Hid (∀ x ∈ zs, I64 x) := fun x hx => (hgd.out.mem x hx).i64
            have S2 := Lib.hid (Sp.pick [0, 3, 2, 0, 0, 0] HS.out rfl)
            have k1 := S2.out.cell (i := 1) rfl (o := 1) rfl
            have S4 := Lib.hid (Sp.own_to_row S2.out hzI.out)
            have S5 := S4.out.alloc_box #[.slice DC zs.length dc] 26
            have kB := S5.cell (i := 0) rfl (o := 0) rfl
            have hrows := Lib.hid (S5.rows (i := 3) rfl)
            have hXb : X.length ≤ 60 := by have := hnl.out; omega
            have hX2 : Hid (X ++ [zs] = nodT L (i + 1)) := by unfold Hid; rw [hNs.out, hzz, ha'.out]
            have hps2 : Hid (ps = pigT L (i + 1)) := by unfold Hid; rw [hPs.out, hps.out]
            have hhs2 : Hid (hs = holT L (i + 1)) := by unfold Hid; rw [hHs.out, hhs.out, List.take_length]
            have hVn : Hid (V = ((holT L (i + 1)).length : Int)) := by unfold Hid; rw [hHs.out, List.length_append, ha'.out, hV.out]; push_cast; rfl
            clear HS S2 S5 hzz hzs hps hhs hV hgd hPs hHs hNs hpl' hnl ha' hI
            have e1 := hps2.out
            have e2 := hhs2.out
            have e3 := hVn.out
            subst e1
            subst e2
            subst e3
            clear hps2 hhs2 hVn
            go_wp2_with (at_builtin; refine wpList_append_src rfl _ _ rfl Try.underlying24 hi1 hrz0 hrz1 hrz2 rfl (by decide) _ X.length _ rfl hrows.out _ 1 1 [.slice DC zs.length dc] rfl (Src.one kB) (by simp [Value.oneCell']) ?c3 ?c4 ?_)
            case c3 => unfold maxLen; omega
            case c4 => omega
            intro vY wY hownY hgY hatY
            have S6 := ((S4.out.bring (i := 2) rfl).swap).rows_push (bal (bb _) _) hownY hgY (by simpa using hatY)
            obtain ⟨aY, cY, rfl⟩ := own_slice hownY
            have hl1 : X.length + 1 = (X ++ [zs]).length := by simp
            rw [hl1] at S6 ⊢
            rw [hX2.out] at S6 ⊢
            clear S4 hrows hownY hgY hatY kB k1 hl1
            have f1 := S6.frozen (i := 1) rfl 1
            have kc0 := S6.cell (i := 1) rfl (o := 0) rfl
            have kc1 := S6.cell (i := 1) rfl (o := 1) rfl
            have S7 := S6.store (i := 1) rfl 1 (.slice aY (nodT L (i + 1)).length cY)
            have S8 := Lib.hid (Sp.pick [2, 2, 0, 0, 0] S7 rfl)
            clear S6 S7
            go_wp2_with fail
            go_roundw
            case rel => exact ⟨i + 1, DP, DH, aY, dp, dh, cY, _, by omega, by go_num, rfl, rfl, S8⟩
            case measure => simp [intOf]; omega
        --} one
      · obtain rfl : i = n := by omega
        --{ two
        have hpl := Lib.hid (pig_hol (L := L) (m := i) (by have := hn'.out; omega))
        have hhs := hol_small hlst.out (m := i) (by have := hn'.out; omega)
        have hr1 := Lib.hid (hol_rng hlst.out (m := i))
        have hr2 := Lib.hid (pig_rng (L := L) (m := i))
        have hnl := Lib.hid (nodT_len L i)
        have hfin : Hid (chX L = nodT L i ++ prO (pigT L i) (holT L i) (holT L i).length (holT L i).length) := by unfold Hid chX chN; rw [hn'.out]
        have hcN : Hid (chN L = (holT L i).length) := by unfold Hid chN; rw [hn'.out]
        generalize pigT L i = P at *
        generalize holT L i = H at *
        generalize nodT L i = X0 at *
        obtain ⟨N, hN⟩ : ∃ N, H.length = N := ⟨_, rfl⟩
        have hH' := Lib.hid hN
        rw [hN] at hfin hcN hpl hhs
        have hN12 : N ≤ 12 := by omega
        have hz0 : Hid (X0 ++ prO P H N 0 = X0) := by unfold Hid prO; simp
        have S3 : Hid (Sp w wr [OwnL D1 d1 P, OwnL D2 d2 H, Rows Ty.int 26 (.slice B (X0 ++ prO P H N 0).length bc) cs (X0 ++ prO P H N 0), Box fb 31 #[.int .i64 N, .slice B (X0 ++ prO P H N 0).length bc], Box w.heap.size 31 #[.int .i64 0, .slice none 0 0]]) := by rw [hz0.out, ← hN]; exact HS.out
        have c0 := HS.out.cell (i := 3) rfl (o := 0) rfl
        rw [hN] at c0
        have hP64 : Hid (∀ x ∈ P, I64 x) := fun x hx => by have := hr2.out x hx; unfold I64; omega
        have hH64 : Hid (∀ x ∈ H, I64 x) := fun x hx => by have := hr1.out x hx; unfold I64; omega
        clear HS hN
        rename World => wo
        go_wp2_with fail
        clear c0
        go_loopw [10] (fun v64 wr => ∃ (v : Nat) (B : Option Addr) (bc : Nat) (cs : List Value), v ≤ N ∧ v64 = .int .i64 v ∧ Hid (Sp w wr [OwnL D1 d1 P, OwnL D2 d2 H, Rows Ty.int 26 (.slice B (X0 ++ prO P H N v).length bc) cs (X0 ++ prO P H N v), Box fb 31 #[.int .i64 N, .slice B (X0 ++ prO P H N v).length bc], Box w.heap.size 31 #[.int .i64 0, .slice none 0 0]])) (fun v64 _ => N - (intOf v64).toNat)
        case atStart => exact ⟨0, B, bc, cs, Nat.zero_le _, rfl, S3⟩
        case round =>
          clear S3
          obtain ⟨v, B, bc, cs, hv, rfl, HS⟩ := hrel
          by_cases hlt2 : v < N
          · have hz1 : Hid (X0 ++ prO P H N v ++ prI P H v (v + 1) = X0 ++ prO P H N v) := by unfold Hid; rw [prI_start, List.append_nil]
            have hol1 := prO_len P H N v
            have hol2 : (X0 ++ prO P H N v).length ≤ 200 := by
              have := Nat.mul_le_mul (show v ≤ 12 by omega) hN12
              rw [List.length_append, hnl.out]; omega
            have hnext : Hid (X0 ++ prO P H N v ++ prI P H v N = X0 ++ prO P H N (v + 1)) := by unfold Hid; rw [prO_succ, List.append_assoc]
            generalize X0 ++ prO P H N v = X1 at *
            have S4 : Hid (Sp w wr [OwnL D1 d1 P, OwnL D2 d2 H, Rows Ty.int 26 (.slice B (X1 ++ prI P H v (v + 1)).length bc) cs (X1 ++ prI P H v (v + 1)), Box fb 31 #[.int .i64 N, .slice B (X1 ++ prI P H v (v + 1)).length bc], Box w.heap.size 31 #[.int .i64 0, .slice none 0 0]]) := by rw [hz1.out]; exact HS
            have c0 := HS.out.cell (i := 3) rfl (o := 0) rfl
            clear HS
            rename World => wo2
            go_wp2_with fail
            clear c0
            go_loopw [11] (fun v13 wr => ∃ (u : Nat) (B : Option Addr) (bc : Nat) (cs : List Value), (v + 1 ≤ u ∧ u ≤ N) ∧ v13 = .int .i64 u ∧ Hid (Sp w wr [OwnL D1 d1 P, OwnL D2 d2 H, Rows Ty.int 26 (.slice B (X1 ++ prI P H v u).length bc) cs (X1 ++ prI P H v u), Box fb 31 #[.int .i64 N, .slice B (X1 ++ prI P H v u).length bc], Box w.heap.size 31 #[.int .i64 0, .slice none 0 0]])) (fun v13 _ => N - (intOf v13).toNat)
            case atStart => exact ⟨v + 1, B, bc, cs, ⟨Nat.le_refl _, by omega⟩, by go_num, S4⟩
            case round =>
              clear S4
              obtain ⟨u, B, bc, cs, ⟨hu0, hu1⟩, rfl, HS⟩ := hrel
              have c0 := HS.out.cell (i := 3) rfl (o := 0) rfl
              by_cases hlt3 : u < N
              · have hvP : v < P.length := by rw [hpl.out]; omega
                have huP : u < P.length := by rw [hpl.out]; omega
                have hvH : v < H.length := by rw [hH'.out]; omega
                have huH : u < H.length := by rw [hH'.out]; omega
                have hIP := HS.out.ints (i := 0) rfl hP64.out
                have hIH := HS.out.ints (i := 1) rfl hH64.out
                obtain ⟨b1, o1, hA1, m1⟩ := hIP.at_ v hvP
                obtain ⟨_, _, e2, m2⟩ := hIP.at_ u huP
                obtain ⟨b2, o2, hA2, m3⟩ := hIH.at_ v hvH
                obtain ⟨_, _, e4, m4⟩ := hIH.at_ u huH
                subst hA1
                subst hA2
                cases e2
                cases e4
                have k1 := cell_regrown m1
                have k2 := cell_regrown m2
                have k3 := cell_regrown m3
                have k4 := cell_regrown m4
                have hcon : Hid (conC P H v u = ((P[v] != P[u]) && (H[v] == H[u]))) := by
                  unfold Hid conC
                  simp [List.getD_eq_getElem?_getD, List.getElem?_eq_getElem, hvP, huP, hvH, huH]
                have hstep := Lib.hid (prI_succ P H v u)
                have hxl : Hid ((X1 ++ prI P H v u).length ≤ 1000) := by
                  have := prI_len P H v u
                  unfold Hid; rw [List.length_append]; omega
                generalize P[v] = p1 at *
                generalize P[u] = p2 at *
                generalize H[v] = h1 at *
                generalize H[u] = h2 at *
                clear m1 m2 m3 m4 hIP hIH
                cases hq : ((p1 != p2) && (h1 == h2))
                · have hn2 : Hid (X1 ++ prI P H v (u + 1) = X1 ++ prI P H v u) := by unfold Hid; rw [hstep.out, hcon.out, hq]; simp
                  by_cases hp : p1 = p2
                  · have hpb : (p1 == p2) = true := by simp [hp]
                    go_wp2_with fail
                    refine wp_region_quiet_below (by kernel_rfl) (by kernel_rfl) ?_
                    repeat (any_goals (go_big_quiet_step (fail)))
                    refine wpQuiet_nil ?_
                    rintro w3 ⟨p, rfl⟩
                    have S6 := Lib.hid (HS.out.grow (below_regrown _ p.d p.os))
                    rw [← hn2.out] at S6
                    clear HS k1 k2 k3 k4 c0
                    go_wp2_with fail
                    go_roundw
                    case rel => exact ⟨u + 1, B, bc, cs, ⟨by omega, by omega⟩, by go_num, S6⟩
                    case measure => simp [intOf]; omega
                  · have hpb : (p1 == p2) = false := by simp [hp]
                    have hhb : (h1 == h2) = false := by simpa [hp] using hq
                    have hpb2 : (p1 != p2) = true := by simp [bne, hpb]
                    replace hq := Lib.hid hq
                    go_wp2_with fail
                    refine wp_region_quiet_below (by kernel_rfl) (by kernel_rfl) ?_
                    repeat (any_goals (go_big_quiet_step (fail)))
                    refine wpQuiet_nil ?_
                    rintro w3 ⟨p, rfl⟩
                    have S6 := Lib.hid (HS.out.grow (below_regrown _ p.d p.os))
                    rw [← hn2.out] at S6
                    clear HS k1 k2 k3 k4 c0
                    go_wp2_with fail
                    go_roundw
                    case rel => exact ⟨u + 1, B, bc, cs, ⟨by omega, by omega⟩, by go_num, S6⟩
                    case measure => simp [intOf]; omega
                · skip
                  have hpb : (p1 == p2) = false := by cases h : (p1 == p2) with
                    | false => rfl
                    | true => simp [bne, h] at hq
                  have hhb : (h1 == h2) = true := by simp [bne, hpb] at hq; simpa using hq
                  have hpn : ¬ p1 = p2 := by simpa using hpb
                  have hhn : h1 = h2 := by simpa using hhb
                  have hn2 : Hid (X1 ++ prI P H v u ++ [[-(v : Int) - 1, -(u : Int) - 1]] = X1 ++ prI P H v (u + 1)) := by
                    unfold Hid; rw [hstep.out, hcon.out, hq, decide_eq_true (by omega : v < u)]; simp [prC]
                  have hpb2 : (p1 != p2) = true := by simp [bne, hpb]
                  replace hq := Lib.hid hq
                  have hpg := Lib.hid (prC_good (v := v) (u := u) (by omega) (by omega))
                  go_wp2_with fail
                  refine wp_region_quiet_below (by kernel_rfl) (by kernel_rfl) ?_
                  repeat (any_goals (go_big_quiet_step (fail)))
                  refine wpQuiet_nil ?_
                  rintro w4 ⟨p, hw4⟩
                  have S6 := Lib.hid (HS.out.grow (hw4 ▸ below_regrown _ _ _ : Below wr.heap.size wr w4))
                  clear hw4 HS k1 k2 k3 k4 c0
                  have k1 := S6.out.cell (i := 3) rfl (o := 1) rfl
                  have e7 : -((v : Int) + 1) = -(v : Int) - 1 := by omega
                  have e8 : -((u : Int) + 1) = -(u : Int) - 1 := by omega
                  have hpp : ∀ x ∈ [-((v : Int) + 1), -((u : Int) + 1)], I64 x := by rw [e7, e8]; exact fun x hx => (hpg.out.mem x hx).i64
                  have S7 := S6.out.own_two (-((v : Int) + 1)) (-((u : Int) + 1))
                  have S7b := Sp.pick [0, 3, 2, 0, 0, 0] S7 rfl
                  have S4 := Lib.hid (Sp.own_to_row S7b hpp)
                  obtain ⟨xs1, hxs1⟩ : ∃ xs1, X1 ++ prI P H v u = xs1 := ⟨_, rfl⟩
                  have hn3 : Hid (xs1 ++ [[-((v : Int) + 1), -((u : Int) + 1)]] = X1 ++ prI P H v (u + 1)) := by rw [← hxs1, e7, e8]; exact hn2
                  obtain ⟨xs2, hxs2⟩ : ∃ xs2, X1 ++ prI P H v (u + 1) = xs2 := ⟨_, rfl⟩
                  rw [hxs1] at S4 hxl k1
                  have S5 := S4.out.alloc_box #[.slice (some ⟨w4.heap.size, 0, none⟩) 2 2] 26
                  simp only [World.size_alloc] at S5
                  have kB := S5.cell (i := 0) rfl (o := 0) rfl
                  have hrows := Lib.hid (S5.rows (i := 3) rfl)
                  have hxl2 : xs1.length ≤ 1000 := hxl.out
                  clear S6 S7 S7b S5 hpg hpp e7 e8
                  go_wp2_with (at_builtin; refine wpList_append_src rfl _ _ rfl Try.underlying24 hi1 hrz0 hrz1 hrz2 rfl (by decide) _ xs1.length _ rfl hrows.out _ 1 1 [.slice (some ⟨w4.heap.size, 0, none⟩) 2 2] rfl (Src.one kB) (by simp [Value.oneCell']) ?c3 ?c4 ?_)
                  case c3 => unfold maxLen; omega
                  case c4 => omega
                  intro vY wY hownY hgY hatY
                  have S6 := ((S4.out.bring (i := 2) rfl).swap).rows_push (bal (bb _) _) hownY hgY (by simpa using hatY)
                  obtain ⟨aY, cY, rfl⟩ := own_slice hownY
                  have hl1 : xs1.length + 1 = (xs1 ++ [[-((v : Int) + 1), -((u : Int) + 1)]]).length := by simp
                  rw [hl1] at S6 ⊢
                  rw [hn3.out] at S6 ⊢
                  rw [hxs2] at S6 ⊢
                  clear S4 hrows hownY hgY hatY kB k1 hl1
                  have f1 := S6.frozen (i := 1) rfl 1
                  have kc0 := S6.cell (i := 1) rfl (o := 0) rfl
                  have kc1 := S6.cell (i := 1) rfl (o := 1) rfl
                  have S7 := S6.store (i := 1) rfl 1 (.slice aY xs2.length cY)
                  have S9 := Lib.hid (Sp.pick [2, 2, 0, 0, 0] S7 rfl)
                  clear S6 S7
                  go_wp2_with fail
                  subst hxs2
                  go_wp2_with fail
                  go_roundw
                  case rel => exact ⟨u + 1, aY, cY, _, ⟨by omega, by omega⟩, by go_num, S9⟩
                  case measure => simp [intOf]; omega
              · obtain rfl : u = N := by omega
                have hlt4 := hlt3
                have S5 := HS
                rw [hnext.out] at S5
                clear HS
                go_wp2_with fail
                go_roundw
                case rel => exact ⟨v + 1, B, bc, cs, by omega, by go_num, S5⟩
                case measure => simp [intOf]; omega
          · obtain rfl : v = N := by omega
            have e1 : Hid (chX L = X0 ++ prO P H v v) := hfin
            clear hfin hr1 hr2 hX hlst hnl hpl
            generalize X0 ++ prO P H v v = xss at *
            have r0 := HS.out.cell (i := 4) rfl (o := 0) rfl
            have r1 := HS.out.cell (i := 4) rfl (o := 1) rfl
            have f0 := HS.out.frozen (i := 4) rfl 0
            have f1 := HS.out.frozen (i := 4) rfl 1
            have p0 := HS.out.cell (i := 3) rfl (o := 0) rfl
            have p1 := HS.out.cell (i := 3) rfl (o := 1) rfl
            have SF := (HS.out.store (i := 4) rfl 0 (.int .i64 v)).store (i := 4) rfl 1 (.slice B xss.length bc)
            have j0 := SF.cell (i := 4) rfl (o := 0) rfl
            have j1 := SF.cell (i := 4) rfl (o := 1) rfl
            obtain ⟨F, hr, -, -⟩ := SF.rows_done (i := 2) rfl
            have hZ := Lib.hid SF.below
            replace hr := Lib.hid (Ty.row_down hr)
            clear HS SF
            go_wp2_with fail
            exact bodyPost_ret (v := .tuple #[.agg #[.int .i64 v, .slice B xss.length bc], .bool true]) (by simp [results, Try.results12, go_sem, j0, j1]) rfl (by rw [hcN.out, e1.out]; exact ⟨B, bc, F, rfl, hr.out, hZ.out⟩)
        --} two
end Go.Proofs.Yteabiokhbaekpaa

/- Contract: whether pigeons have fewer holes together than they are, asked of a choice and of valid pigeons, in the program. -/
namespace Go.Proofs.Yteabiokhbaekpaa
open Go.RowKit

set_option maxRecDepth 100000 in
theorem hallNeg_any (x : Int) (w : World) : Calls Try.prog 34 #[.int .i64 x] w fun e w' => e = .returned (.bool (decide (x < 0))) ∧ Below w.heap.size w w' := by
  go_enter Try.func34, Try.ntmps34
  go_wp2_with fail
  go_ret
  exact ⟨rfl, bb _⟩

set_option maxRecDepth 100000 in
set_option maxHeartbeats 4000000 in
theorem isHallSet_at (A : Option Addr) (c : Nat) (L : List (List Int)) (B : Option Addr) (d : Nat) (sm : List Int) (F : List Nat) (w : World) (hx : ClsAt w A L) (hy : Ty.int.row false w (.slice B sm.length d) sm F) (hL : choiceB L = true) (hc : clauseB L.length sm = true) (hs : sm.length ≤ 20) (hr : ∀ i ∈ sm, 1 ≤ i ∧ i ≤ L.length) :
    Calls Try.prog 16 #[.slice A L.length c, .slice B sm.length d] w fun e w' => e = .returned (.tuple #[.bool (hallB L sm), .bool true]) ∧ Below w.heap.size w w' := by
  obtain ⟨_, _, e1, hI⟩ := ints_row hy
  cases e1
  have h4 := choice_parts hL
  have hic := implIsChoice_any A c L w hx (by omega) (fun l hl => by have := lst_len (h4.2 l hl); omega)
  rw [hL] at hic
  replace hic := Lib.hid hic
  have hcl := Lib.hid (implIsClause_any L.length (.slice B sm.length d) sm F w hy)
  rw [hc] at hcl
  have eg : Enter1 34 := enters_of Try.func34 (by kernel_rfl) rfl
  have hcf := Lib.hid (fun W (h : Below w.heap.size w W) => containsI_any eg sm B d W (hI.grow h) (by omega) (R := fun _ => True) (p := fun x => decide (x < 0)) (fun _ _ => trivial) (cb := #[]) (fun x V _ _ => hallNeg_any x V))
  have hany : (sm.any fun x => decide (x < 0)) = false := by
    rw [List.any_eq_false]
    intro x hx
    have := hr x hx
    simp; omega
  rw [hany] at hcf
  have hh := Lib.hid (fun W (h : Below w.heap.size w W) => isHall_any A c L B d sm W (hx.grow h) (hI.grow h) hL hs hr)
  generalize hallB L sm = q at *
  clear hx hy hL hc hI hany eg
  go_enter Try.func16, Try.ntmps16
  go_wp2_with fail
  refine hic.out.mono ?_
  rintro e w1 ⟨rfl, rfl⟩
  go_wp2_with fail
  refine hcl.out.mono ?_
  rintro e w2 ⟨rfl, hb2⟩
  go_wp2_with fail
  refine (hcf.out _ hb2).mono ?_
  rintro e w3 ⟨rfl, hb3⟩
  have hB3 := Lib.hid (btr hb2 hb3)
  clear hic hcl hcf hb2 hb3
  go_wp2_with fail
  refine (hh.out _ hB3.out).mono ?_
  rintro e w4 ⟨rfl, hb4⟩
  have hB4 := Lib.hid (btr hB3.out hb4)
  clear hh hb4 hB3
  go_wp2_with fail
  go_ret2
  exact ⟨rfl, hB4.out⟩
end Go.Proofs.Yteabiokhbaekpaa

/- Contracts: tables and Cnfs compared in the laws. Turned from SdJ. -/
namespace Go.Proofs.Yteabiokhbaekpaa
open Go.RowKit

set_option maxRecDepth 100000 in
set_option maxHeartbeats 4000000 in
theorem rTable_same (A A' : Option Addr) (c c' : Nat) (xss : List (List Int)) (w : World) (hx : ClsAt w A xss) (hy : ClsAt w A' xss) (hl : xss.length ≤ 1000000) (hs : ∀ c ∈ xss, c.length ≤ 1000000) :
    Calls Try.prog 29 #[.slice A xss.length c, .slice A' xss.length c'] w fun e w' => e = .returned (.bool true) ∧ Below w.heap.size w w' := by
  have hN := Lib.hid hx
  have hM := Lib.hid hy
  have hS := Lib.hid hs
  clear hx hy hs
  go_enter Try.func29, Try.ntmps29
  go_wp2_with fail
  go_loopw [5] (fun i wr => ∃ k : Nat, k ≤ xss.length ∧ i = .int .i64 k ∧ Hid (Below w.heap.size w wr)) (fun i _ => xss.length - (intOf i).toNat)
  case atStart => exact ⟨0, Nat.zero_le _, rfl, bb _⟩
  case round =>
    obtain ⟨k, hk, rfl, HS⟩ := hrel
    by_cases hlt : k < xss.length
    · obtain ⟨b, off, D, dc, rfl, m0, hI⟩ := (hN.out.grow HS.out).at_ k hlt
      obtain ⟨b', off', E, ec, rfl, p0, hJ⟩ := (hM.out.grow HS.out).at_ k hlt
      have hcall := Lib.hid (fun W (h : Below wr.heap.size wr W) => rInts_same D E dc ec xss[k] W (hI.grow h) (hJ.grow h) (hS.out _ (List.getElem_mem hlt)))
      have k0 := cell_regrown m0
      have q0 := cell_regrown p0
      generalize xss[k] = v at *
      clear m0 p0 hI hJ
      go_wp2_with fail
      refine wp_region_quiet_below (by kernel_rfl) (by kernel_rfl) ?_
      repeat (any_goals (first | go_big_quiet_step ((go_at_call 8; exact Calls.regrown_of (hcall.out _ (below_regrown _ _ _))))))
      refine wpQuiet_nil ?_
      rintro w3 ⟨p, rfl⟩
      have HS4 := Lib.hid (btr HS.out (below_regrown _ p.d p.os))
      clear HS k0 q0 hcall
      go_wp2_with fail
      go_roundw
      case rel => exact ⟨k + 1, by omega, by go_num, HS4⟩
      case measure => simp [intOf]; omega
    · obtain rfl : k = xss.length := by omega
      have hB := HS.out
      go_wp2_with fail
      go_ret
      exact ⟨rfl, hB⟩

set_option maxHeartbeats 2000000 in
theorem rCnf_same (vars : Int) (A A' : Option Addr) (c c' : Nat) (xss : List (List Int)) (w : World) (hx : ClsAt w A xss) (hy : ClsAt w A' xss) (hl : xss.length ≤ 1000000) (hs : ∀ c ∈ xss, c.length ≤ 1000000) :
    Calls Try.prog 14 #[.agg #[.int .i64 vars, .slice A xss.length c], .agg #[.int .i64 vars, .slice A' xss.length c']] w fun e w' => e = .returned (.bool true) ∧ Below w.heap.size w w' := by
  have S0 := ((Sp.start w).alloc_box #[.int .i64 vars, .slice A xss.length c] 31).alloc_box #[.int .i64 vars, .slice A' xss.length c'] 31
  simp only [World.size_alloc] at S0
  have hcall := Lib.hid (rTable_same A A' c c' xss _ (hx.grow S0.below) (hy.grow S0.below) hl hs)
  have a0 := S0.cell (i := 1) rfl (o := 0) rfl
  have a1 := S0.cell (i := 1) rfl (o := 1) rfl
  have b0 := S0.cell (i := 0) rfl (o := 0) rfl
  have b1 := S0.cell (i := 0) rfl (o := 1) rfl
  replace S0 := Lib.hid S0
  generalize xss.length = m at *
  have hv : (vars == vars) = true := by simp
  clear hx hy hs
  go_enter Try.func14, Try.ntmps14
  go_wp2_with fail
  refine hcall.out.mono ?_
  rintro e w1 ⟨rfl, hb1⟩
  have hB := Lib.hid (S0.out.grow hb1).below
  clear S0 hcall hb1 a0 a1 b0 b1
  go_wp2_with fail
  go_ret
  exact ⟨rfl, hB.out⟩
end Go.Proofs.Yteabiokhbaekpaa

/- Contract: a matching that is extended, in the reference. Printed by gen_hlg.py. -/
namespace Go.Proofs.Yteabiokhbaekpaa
open Go.RowKit

set_option maxRecDepth 100000 in
set_option maxHeartbeats 8000000 in
theorem l28Match_any (LA : Option Addr) (lc : Nat) (L : List (List Int)) (hLl : L.length ≤ 1000) (hs1 : ∀ l ∈ L, l.length ≤ 1000) : ∀ (n : Nat) (hs : List Int) (A : Option Addr) (c : Nat) (w : World), hs.length + n = L.length → ClsAt w LA L → IntsAt w A hs →
    Calls Try.prog 25 #[.slice LA L.length lc, .slice A hs.length c] w (MOut (matchF n L hs) w) := by
  intro n
  obtain ⟨i0, hi0, hy0, hy1, hy2⟩ := info_parts infoInt
  induction n with
  | zero =>
    intro hs A c w hn hx hI
    have hee : ((hs.length : Int) == (L.length : Int)) = true := by simp; omega
    have hee2 : hs.length = L.length := by omega
    have hhl : hs.length ≤ 1000 := by omega
    have S0 := (Sp.start w).own_made 3 1
    have hsrc := Lib.hid (ints_src (hI.grow S0.below) rfl)
    have hok := Lib.hid hI.ok
    have hown := Lib.hid (S0.own (i := 0) rfl)
    replace S0 := Lib.hid S0
    replace hee2 := Lib.hid hee2
    clear hI hx hn
    show Calls Try.prog 25 #[.slice LA L.length lc, .slice A hs.length c] w (MOut (some hs) w)
    go_enter Try.func25, Try.ntmps25
    go_wp2_with (at_builtin; refine wpList_append_src rfl _ _ rfl Try.underlying26 hi0 hy0 hy1 hy2 rfl (by decide) _ _ _ rfl hown.out _ hs.length c (hs.map (.int .i64)) rfl hsrc.out (ints_one hs) ?c3 ?c4 ?_)
    case c3 => unfold maxLen; omega
    case c4 => omega
    intro vY wY hownY hgY hatY
    have S4 := S0.out.own_push (i := 0) rfl (bb _) hownY hgY (by simpa using hatY)
    obtain ⟨aY, cY, rfl⟩ := own_slice hownY
    have S5 : Sp w wY [Own 3 1 (.slice aY hs.length cY) hs.length (hs.map (.int .i64))] := by simpa using S4
    have hI5 := Lib.hid (S5.ints (i := 0) rfl hok.out)
    have hB5 := Lib.hid S5.below
    clear S4 S5 hownY hgY hatY hsrc hown S0
    go_wp2_with fail
    go_ret2
    exact ⟨aY, cY, rfl, hI5.out, hB5.out⟩
  | succ n ih =>
    intro hs A c w hn hx hI
    have hlt : hs.length < L.length := by omega
    have hne : ((hs.length : Int) == (L.length : Int)) = false := by simp; omega
    have hne2 : ¬ hs.length = L.length := by omega
    have hX := Lib.hid hx
    have hH := Lib.hid hI
    obtain ⟨b, off, D, dc, hA, m0, hl⟩ := hx.at_ hs.length hlt
    subst hA
    have hsl := hs1 _ (List.getElem_mem hlt)
    have hr : Hid (matchF (n + 1) L hs = (L[hs.length]).findSome? (matchJ n L hs)) := by unfold Hid; rw [matchF_succ, List.getD_eq_getElem?_getD, List.getElem?_eq_getElem hlt]; rfl
    have hJ : Hid (∀ j, matchJ n L hs j = if hasI hs j then none else matchF n L (hs ++ [j])) := fun j => rfl
    generalize L[hs.length] = l at *
    generalize matchF (n + 1) L hs = R at *
    have hl' := Lib.hid hl
    replace ih := Lib.hid ih
    have hhl : hs.length ≤ 1000 := by omega
    have hn' := Lib.hid hn
    clear hx hI hl hn
    go_enter Try.func25, Try.ntmps25
    go_wp2_with fail
    clear m0
    go_loopw [7] (fun v7 wr => ∃ k : Nat, k ≤ l.length ∧ v7 = .int .i64 k ∧ Hid ((l.take k).findSome? (matchJ n L hs) = none) ∧ Hid (Below w.heap.size w wr)) (fun v7 _ => l.length - (intOf v7).toNat)
    case atStart => exact ⟨0, Nat.zero_le _, rfl, rfl, bb _⟩
    case round =>
      obtain ⟨k, hk, rfl, HR, HB⟩ := hrel
      by_cases hlt2 : k < l.length
      · obtain ⟨b1, o1, hD, m1⟩ := (hl'.out.grow HB.out).at_ k hlt2
        subst hD
        have hcl : Hid (∀ W, Below w.heap.size w W → W.cell? ⟨b1, o1 + k, none⟩ = some (.int .i64 l[k])) := fun W h => by
          obtain ⟨b', o', e, h'⟩ := (hl'.out.grow h).at_ k hlt2
          cases e; exact h'
        have hj64 := hl'.out.ok _ (List.getElem_mem hlt2)
        have hco := l1HasI_any hs A c l[k] wr (hH.out.grow HB.out) (by omega)
        have hfs := Lib.hid (fun r (h : matchJ n L hs l[k] = some r) => find_some hlt2 HR.out h)
        have hfn := Lib.hid (fun (h : matchJ n L hs l[k] = none) => find_none hlt2 HR.out h)
        have hJk := hJ.out l[k]
        generalize l[k] = j at *
        replace hJk := Lib.hid hJk
        cases hh : hasI hs j
        · rw [hh] at hco
          have hJ2 : Hid (matchJ n L hs j = matchF n L (hs ++ [j])) := by unfold Hid; rw [hJk.out, if_neg (by rw [hh]; simp)]
          replace hco := Lib.hid hco
          clear hh hJk HR
          go_wp2_with fail
          refine hco.out.mono ?_
          rintro e w2 ⟨rfl, rfl⟩
          have HS := Lib.hid (Sp.of_below HB.out)
          clear hco
          go_wp2_with fail
          refine wp_region_held_lit (S := (fun w' => w'.cell? ⟨b1, o1 + k, none⟩ = some (.int .i64 j))) 16 [false, false, false, false, false, false, false, false, false, false, false, false, false, false, false, false] (by kernel_rfl) (by kernel_rfl) (by kernel_rfl) ?_ ?_
          · exact hcl.out _ (bdr HB.out)
          intro hS0
          (refine wpAnyH_take (i := 0) (v := ?_) rfl (by kernel_rfl) (by kernel_rfl) (by kernel_rfl) (fun _ _ _ h => h) (Or.inl ⟨by rfl, ?_⟩) (by assumption) ?_; rotate_left; (focus (intro w hSw; (try dsimp only at hSw); go_simp; (try with_reducible rfl); done)); (try simp only [put_rules]))
          (refine wpAnyH_take (i := 2) (v := ?_) rfl (by kernel_rfl) (by kernel_rfl) (by kernel_rfl) (fun _ _ _ h => h) (Or.inl ⟨by rfl, ?_⟩) (by assumption) ?_; rotate_left; (focus (intro w hSw; (try dsimp only at hSw); go_simp; (try with_reducible rfl); done)); (try simp only [put_rules]))
          (refine wpAnyH_take (i := 4) (v := ?_) rfl (by kernel_rfl) (by kernel_rfl) (by kernel_rfl) (fun _ _ _ h => h) (Or.inl ⟨by rfl, ?_⟩) (by assumption) ?_; rotate_left; (focus (intro w hSw; (try dsimp only at hSw); go_simp; (try with_reducible rfl); done)); (try simp only [put_rules]))
          (refine wpAnyH_take (i := 5) (v := ?_) rfl (by kernel_rfl) (by kernel_rfl) (by kernel_rfl) (fun _ _ _ h => h) (Or.inl ⟨by rfl, ?_⟩) (by assumption) ?_; rotate_left; (focus (intro w hSw; (try dsimp only at hSw); go_simp; (try with_reducible rfl); done)); (try simp only [put_rules]))
          (refine wpAnyH_take (i := 6) (v := ?_) rfl (by kernel_rfl) (by kernel_rfl) (by kernel_rfl) (fun _ _ _ h => h) (Or.inl ⟨by rfl, ?_⟩) (by assumption) ?_; rotate_left; (focus (intro w hSw; (try dsimp only at hSw); go_simp; (try with_reducible rfl); done)); (try simp only [put_rules]))
          (refine wpAnyH_take (i := 7) (v := ?_) rfl (by kernel_rfl) (by kernel_rfl) (by kernel_rfl) (fun _ _ _ h => h) (Or.inl ⟨by rfl, ?_⟩) (by assumption) ?_; rotate_left; (focus (intro w hSw; (try dsimp only at hSw); go_simp; (try with_reducible rfl); done)); (try simp only [put_rules]))
          (refine wpAnyH_ready (rs := [1, 8]) (by kernel_rfl) (by simp) ?_; refine AllReadyH.cons rfl (fun K hK => ?_) (AllReadyH.cons rfl (fun K hK => ?_) AllReadyH.nil))
          · skip
            go_simp
            have S1 := HS.out.drew.own_made 3 1
            (try simp only [World.size_alloc, show wr.drew.heap.size = wr.heap.size from rfl] at S1)
            replace S1 := Lib.hid S1
            refine hK.out _ _ (hcl.out _ S1.out.below) (fun _ => ?_)
            clear hK HS
            (try simp only [put_rules])
            (refine wpAnyH_ready (rs := [3, 8]) (by kernel_rfl) (by simp) ?_; refine AllReadyH.cons rfl (fun K hK => ?_) (AllReadyH.cons rfl (fun K hK => ?_) AllReadyH.nil))
            · skip
              have hsrc := ints_src (hH.out.grow S1.out.below) (n := hs.length) rfl
              have hown := S1.out.own (i := 0) rfl
              (refine step_append_src rfl _ _ rfl Try.underlying26 hi0 hy0 hy1 hy2 rfl (by decide) _ 0 _ rfl hown A hs.length c (hs.map (.int .i64)) rfl hsrc (ints_one hs) (by unfold maxLen; omega) (by omega) ?_; intro v2 w2 hown2 hg2 hat2)
              have S2 := S1.out.own_push (i := 0) rfl (bb _) hown2 hg2 hat2
              obtain ⟨a2, c2, rfl⟩ := own_slice hown2
              rw [Nat.zero_add hs.length] at S2 ⊢
              simp only [List.set_cons_zero, List.set_cons_succ] at S2
              refine hK.out _ _ (hcl.out _ S2.below) (fun _ => ?_)
              replace S2 := Lib.hid S2
              clear hK S1 hown2 hg2 hat2 hown hsrc
              (try simp only [put_rules])
              (refine wpAnyH_ready (rs := [8]) (by kernel_rfl) (by simp) ?_; refine AllReadyH.cons rfl (fun K hK => ?_) AllReadyH.nil)
              go_simp
              have S3 := S2.out.alloc_box #[.int .i64 j] 3
              (try simp only [World.size_alloc, show wr.drew.heap.size = wr.heap.size from rfl] at S3)
              replace S3 := Lib.hid S3
              refine hK.out _ _ (hcl.out _ S3.out.below) (fun _ => ?_)
              clear hK S2
              (try simp only [put_rules])
              (refine wpAnyH_ready (rs := [9]) (by kernel_rfl) (by simp) ?_; refine AllReadyH.cons rfl (fun K hK => ?_) AllReadyH.nil)
              have hown := S3.out.own (i := 1) rfl
              have k9 := S3.out.cell (i := 0) rfl (o := 0) rfl
              (refine step_append_src rfl _ _ rfl Try.underlying26 hi0 hy0 hy1 hy2 rfl (by decide) _ _ _ rfl hown _ 1 1 [.int .i64 j] rfl (Src.one k9) (by simp [Value.oneCell']) (by unfold maxLen; omega) (by omega) ?_; intro v3 w3 hown3 hg3 hat3)
              have S4 := S3.out.own_push (i := 1) rfl (bb _) hown3 hg3 hat3
              obtain ⟨a3, c3, rfl⟩ := own_slice hown3
              simp only [List.set_cons_zero, List.set_cons_succ] at S4
              refine hK.out _ _ (hcl.out _ S4.below) (fun _ => ?_)
              clear hK S3 hown3 hg3 hat3 hown k9
              (try simp only [put_rules])
              have SZ : Sp w w3 [Own 3 1 (.slice a3 (hs ++ [j]).length c3) (hs ++ [j]).length ((hs ++ [j]).map (.int .i64))] := by
                have h1 := Sp.pick [1] S4 rfl
                simpa [Nat.zero_add] using h1
              have hlen : hs.length + 1 = (hs ++ [j]).length := by simp
              rw [hlen]
              clear S4
              replace hlen := Lib.hid hlen
              have hI5 := SZ.ints (i := 0) rfl (fun x hx => by
                rcases List.mem_append.1 hx with hx | hx
                · exact hH.out.ok x hx
                · rw [List.mem_singleton] at hx; subst hx; exact hj64)
              have hB5 := Lib.hid SZ.below
              have hih := Lib.hid (ih.out (hs ++ [j]) a3 c3 _ (by have := hn'.out; have := hlen.out; omega) (hX.out.grow hB5.out) hI5)
              clear SZ hI5 hlen
              generalize hs ++ [j] = zs at *
              (refine wpAnyH_ready (rs := [10]) (by kernel_rfl) (by simp) ?_; refine AllReadyH.cons rfl (fun K hK => ?_) AllReadyH.nil)
              go_simp
              go_at_call 25
              refine hih.out.mono ?_
              rintro e w4 ⟨D4, dc4, rfl, hI4, hb4⟩
              have hB6 := Lib.hid (btr hB5.out hb4)
              replace hI4 := Lib.hid hI4
              clear hih hb4 hB5
              go_wp2_with fail
              refine hK.out _ _ (hcl.out _ hB6.out) (fun hS9 => ?_)
              clear hK
              (try simp only [put_rules])
              (refine wpAnyH_take (i := 11) (v := ?_) rfl (by kernel_rfl) (by kernel_rfl) (by kernel_rfl) (fun _ _ _ h => h) (Or.inl ⟨by rfl, ?_⟩) (by assumption) ?_; rotate_left; (focus (intro w hSw; (try dsimp only at hSw); go_simp; (try with_reducible rfl); done)); (try simp only [put_rules]))
              (refine wpAnyH_take (i := 12) (v := ?_) rfl (by kernel_rfl) (by kernel_rfl) (by kernel_rfl) (fun _ _ _ h => h) (Or.inl ⟨by rfl, ?_⟩) (by assumption) ?_; rotate_left; (focus (intro w hSw; (try dsimp only at hSw); go_simp; (try with_reducible rfl); done)); (try simp only [put_rules]))
              (refine wpAnyH_take (i := 13) (v := ?_) rfl (by kernel_rfl) (by kernel_rfl) (by kernel_rfl) (fun _ _ _ h => h) (Or.inl ⟨by rfl, ?_⟩) (by assumption) ?_; rotate_left; (focus (intro w hSw; (try dsimp only at hSw); go_simp; (try with_reducible rfl); done)); (try simp only [put_rules]))
              (refine wpAnyH_ready (rs := [14]) (by kernel_rfl) (by simp) ?_; refine AllReadyH.cons rfl (fun K hK => ?_) AllReadyH.nil)
              go_simp
              refine hK.out _ _ hS9 (fun hS10 => ?_)
              clear hK hS9
              (try simp only [put_rules])
              (refine wpAnyH_ready (rs := [15]) (by kernel_rfl) (by simp) ?_; refine AllReadyH.cons rfl (fun K hK => ?_) AllReadyH.nil)
              go_simp
              refine hK.out _ _ hS10 (fun hS11 => ?_)
              clear hK hS10 hS11
              (try simp only [put_rules])
              (refine wpAnyH_done (by kernel_rfl) ?_ _)
              cases hm : matchF n L zs with
              | some r =>
                rw [hm] at hI4
                have hR : Hid (R = some r) := by unfold Hid; rw [hr.out]; exact hfs.out r (hJ2.out.trans hm)
                clear hfs hfn hm hJ2
                go_wp2_with fail
                go_ret2
                rw [hR.out]
                exact ⟨D4, dc4, rfl, hI4.out, hB6.out⟩
              | none =>
                have HR2 := Lib.hid (hfn.out (hJ2.out.trans hm))
                clear hfs hfn hm hJ2 hI4
                go_wp2_with fail
                go_roundw
                case rel => exact ⟨k + 1, by omega, by go_num, HR2, hB6⟩
                case measure => simp [intOf]; omega
            · skip
              go_simp
              have S2 := S1.out.alloc_box #[.int .i64 j] 3
              (try simp only [World.size_alloc, show wr.drew.heap.size = wr.heap.size from rfl] at S2)
              replace S2 := Lib.hid S2
              refine hK.out _ _ (hcl.out _ S2.out.below) (fun _ => ?_)
              clear hK S1
              (try simp only [put_rules])
              (refine wpAnyH_ready (rs := [3]) (by kernel_rfl) (by simp) ?_; refine AllReadyH.cons rfl (fun K hK => ?_) AllReadyH.nil)
              have hsrc := ints_src (hH.out.grow S2.out.below) (n := hs.length) rfl
              have hown := S2.out.own (i := 1) rfl
              (refine step_append_src rfl _ _ rfl Try.underlying26 hi0 hy0 hy1 hy2 rfl (by decide) _ 0 _ rfl hown A hs.length c (hs.map (.int .i64)) rfl hsrc (ints_one hs) (by unfold maxLen; omega) (by omega) ?_; intro v2 w2 hown2 hg2 hat2)
              have S3 := S2.out.own_push (i := 1) rfl (bb _) hown2 hg2 hat2
              obtain ⟨a2, c2, rfl⟩ := own_slice hown2
              rw [Nat.zero_add hs.length] at S3 ⊢
              simp only [List.set_cons_zero, List.set_cons_succ] at S3
              refine hK.out _ _ (hcl.out _ S3.below) (fun _ => ?_)
              replace S3 := Lib.hid S3
              clear hK S2 hown2 hg2 hat2 hown hsrc
              (try simp only [put_rules])
              (refine wpAnyH_ready (rs := [9]) (by kernel_rfl) (by simp) ?_; refine AllReadyH.cons rfl (fun K hK => ?_) AllReadyH.nil)
              have hown := S3.out.own (i := 1) rfl
              have k9 := S3.out.cell (i := 0) rfl (o := 0) rfl
              (refine step_append_src rfl _ _ rfl Try.underlying26 hi0 hy0 hy1 hy2 rfl (by decide) _ _ _ rfl hown _ 1 1 [.int .i64 j] rfl (Src.one k9) (by simp [Value.oneCell']) (by unfold maxLen; omega) (by omega) ?_; intro v3 w3 hown3 hg3 hat3)
              have S4 := S3.out.own_push (i := 1) rfl (bb _) hown3 hg3 hat3
              obtain ⟨a3, c3, rfl⟩ := own_slice hown3
              simp only [List.set_cons_zero, List.set_cons_succ] at S4
              refine hK.out _ _ (hcl.out _ S4.below) (fun _ => ?_)
              clear hK S3 hown3 hg3 hat3 hown k9
              (try simp only [put_rules])
              have SZ : Sp w w3 [Own 3 1 (.slice a3 (hs ++ [j]).length c3) (hs ++ [j]).length ((hs ++ [j]).map (.int .i64))] := by
                have h1 := Sp.pick [1] S4 rfl
                simpa [Nat.zero_add] using h1
              have hlen : hs.length + 1 = (hs ++ [j]).length := by simp
              rw [hlen]
              clear S4
              replace hlen := Lib.hid hlen
              have hI5 := SZ.ints (i := 0) rfl (fun x hx => by
                rcases List.mem_append.1 hx with hx | hx
                · exact hH.out.ok x hx
                · rw [List.mem_singleton] at hx; subst hx; exact hj64)
              have hB5 := Lib.hid SZ.below
              have hih := Lib.hid (ih.out (hs ++ [j]) a3 c3 _ (by have := hn'.out; have := hlen.out; omega) (hX.out.grow hB5.out) hI5)
              clear SZ hI5 hlen
              generalize hs ++ [j] = zs at *
              (refine wpAnyH_ready (rs := [10]) (by kernel_rfl) (by simp) ?_; refine AllReadyH.cons rfl (fun K hK => ?_) AllReadyH.nil)
              go_simp
              go_at_call 25
              refine hih.out.mono ?_
              rintro e w4 ⟨D4, dc4, rfl, hI4, hb4⟩
              have hB6 := Lib.hid (btr hB5.out hb4)
              replace hI4 := Lib.hid hI4
              clear hih hb4 hB5
              go_wp2_with fail
              refine hK.out _ _ (hcl.out _ hB6.out) (fun hS9 => ?_)
              clear hK
              (try simp only [put_rules])
              (refine wpAnyH_take (i := 11) (v := ?_) rfl (by kernel_rfl) (by kernel_rfl) (by kernel_rfl) (fun _ _ _ h => h) (Or.inl ⟨by rfl, ?_⟩) (by assumption) ?_; rotate_left; (focus (intro w hSw; (try dsimp only at hSw); go_simp; (try with_reducible rfl); done)); (try simp only [put_rules]))
              (refine wpAnyH_take (i := 12) (v := ?_) rfl (by kernel_rfl) (by kernel_rfl) (by kernel_rfl) (fun _ _ _ h => h) (Or.inl ⟨by rfl, ?_⟩) (by assumption) ?_; rotate_left; (focus (intro w hSw; (try dsimp only at hSw); go_simp; (try with_reducible rfl); done)); (try simp only [put_rules]))
              (refine wpAnyH_take (i := 13) (v := ?_) rfl (by kernel_rfl) (by kernel_rfl) (by kernel_rfl) (fun _ _ _ h => h) (Or.inl ⟨by rfl, ?_⟩) (by assumption) ?_; rotate_left; (focus (intro w hSw; (try dsimp only at hSw); go_simp; (try with_reducible rfl); done)); (try simp only [put_rules]))
              (refine wpAnyH_ready (rs := [14]) (by kernel_rfl) (by simp) ?_; refine AllReadyH.cons rfl (fun K hK => ?_) AllReadyH.nil)
              go_simp
              refine hK.out _ _ hS9 (fun hS10 => ?_)
              clear hK hS9
              (try simp only [put_rules])
              (refine wpAnyH_ready (rs := [15]) (by kernel_rfl) (by simp) ?_; refine AllReadyH.cons rfl (fun K hK => ?_) AllReadyH.nil)
              go_simp
              refine hK.out _ _ hS10 (fun hS11 => ?_)
              clear hK hS10 hS11
              (try simp only [put_rules])
              (refine wpAnyH_done (by kernel_rfl) ?_ _)
              cases hm : matchF n L zs with
              | some r =>
                rw [hm] at hI4
                have hR : Hid (R = some r) := by unfold Hid; rw [hr.out]; exact hfs.out r (hJ2.out.trans hm)
                clear hfs hfn hm hJ2
                go_wp2_with fail
                go_ret2
                rw [hR.out]
                exact ⟨D4, dc4, rfl, hI4.out, hB6.out⟩
              | none =>
                have HR2 := Lib.hid (hfn.out (hJ2.out.trans hm))
                clear hfs hfn hm hJ2 hI4
                go_wp2_with fail
                go_roundw
                case rel => exact ⟨k + 1, by omega, by go_num, HR2, hB6⟩
                case measure => simp [intOf]; omega
          · skip
            go_simp
            have S1 := HS.out.drew.alloc_box #[.int .i64 j] 3
            (try simp only [World.size_alloc, show wr.drew.heap.size = wr.heap.size from rfl] at S1)
            replace S1 := Lib.hid S1
            refine hK.out _ _ (hcl.out _ S1.out.below) (fun _ => ?_)
            clear hK HS
            (try simp only [put_rules])
            (refine wpAnyH_ready (rs := [1]) (by kernel_rfl) (by simp) ?_; refine AllReadyH.cons rfl (fun K hK => ?_) AllReadyH.nil)
            go_simp
            have S2 := S1.out.own_made 3 1
            (try simp only [World.size_alloc, show wr.drew.heap.size = wr.heap.size from rfl] at S2)
            replace S2 := Lib.hid S2
            refine hK.out _ _ (hcl.out _ S2.out.below) (fun _ => ?_)
            clear hK S1
            (try simp only [put_rules])
            (refine wpAnyH_ready (rs := [3]) (by kernel_rfl) (by simp) ?_; refine AllReadyH.cons rfl (fun K hK => ?_) AllReadyH.nil)
            have hsrc := ints_src (hH.out.grow S2.out.below) (n := hs.length) rfl
            have hown := S2.out.own (i := 0) rfl
            (refine step_append_src rfl _ _ rfl Try.underlying26 hi0 hy0 hy1 hy2 rfl (by decide) _ 0 _ rfl hown A hs.length c (hs.map (.int .i64)) rfl hsrc (ints_one hs) (by unfold maxLen; omega) (by omega) ?_; intro v2 w2 hown2 hg2 hat2)
            have S3 := S2.out.own_push (i := 0) rfl (bb _) hown2 hg2 hat2
            obtain ⟨a2, c2, rfl⟩ := own_slice hown2
            rw [Nat.zero_add hs.length] at S3 ⊢
            simp only [List.set_cons_zero, List.set_cons_succ] at S3
            refine hK.out _ _ (hcl.out _ S3.below) (fun _ => ?_)
            replace S3 := Lib.hid S3
            clear hK S2 hown2 hg2 hat2 hown hsrc
            (try simp only [put_rules])
            (refine wpAnyH_ready (rs := [9]) (by kernel_rfl) (by simp) ?_; refine AllReadyH.cons rfl (fun K hK => ?_) AllReadyH.nil)
            have hown := S3.out.own (i := 0) rfl
            have k9 := S3.out.cell (i := 1) rfl (o := 0) rfl
            (refine step_append_src rfl _ _ rfl Try.underlying26 hi0 hy0 hy1 hy2 rfl (by decide) _ _ _ rfl hown _ 1 1 [.int .i64 j] rfl (Src.one k9) (by simp [Value.oneCell']) (by unfold maxLen; omega) (by omega) ?_; intro v3 w3 hown3 hg3 hat3)
            have S4 := S3.out.own_push (i := 0) rfl (bb _) hown3 hg3 hat3
            obtain ⟨a3, c3, rfl⟩ := own_slice hown3
            simp only [List.set_cons_zero, List.set_cons_succ] at S4
            refine hK.out _ _ (hcl.out _ S4.below) (fun _ => ?_)
            clear hK S3 hown3 hg3 hat3 hown k9
            (try simp only [put_rules])
            have SZ : Sp w w3 [Own 3 1 (.slice a3 (hs ++ [j]).length c3) (hs ++ [j]).length ((hs ++ [j]).map (.int .i64))] := by
              have h1 := Sp.pick [0] S4 rfl
              simpa [Nat.zero_add] using h1
            have hlen : hs.length + 1 = (hs ++ [j]).length := by simp
            rw [hlen]
            clear S4
            replace hlen := Lib.hid hlen
            have hI5 := SZ.ints (i := 0) rfl (fun x hx => by
              rcases List.mem_append.1 hx with hx | hx
              · exact hH.out.ok x hx
              · rw [List.mem_singleton] at hx; subst hx; exact hj64)
            have hB5 := Lib.hid SZ.below
            have hih := Lib.hid (ih.out (hs ++ [j]) a3 c3 _ (by have := hn'.out; have := hlen.out; omega) (hX.out.grow hB5.out) hI5)
            clear SZ hI5 hlen
            generalize hs ++ [j] = zs at *
            (refine wpAnyH_ready (rs := [10]) (by kernel_rfl) (by simp) ?_; refine AllReadyH.cons rfl (fun K hK => ?_) AllReadyH.nil)
            go_simp
            go_at_call 25
            refine hih.out.mono ?_
            rintro e w4 ⟨D4, dc4, rfl, hI4, hb4⟩
            have hB6 := Lib.hid (btr hB5.out hb4)
            replace hI4 := Lib.hid hI4
            clear hih hb4 hB5
            go_wp2_with fail
            refine hK.out _ _ (hcl.out _ hB6.out) (fun hS9 => ?_)
            clear hK
            (try simp only [put_rules])
            (refine wpAnyH_take (i := 11) (v := ?_) rfl (by kernel_rfl) (by kernel_rfl) (by kernel_rfl) (fun _ _ _ h => h) (Or.inl ⟨by rfl, ?_⟩) (by assumption) ?_; rotate_left; (focus (intro w hSw; (try dsimp only at hSw); go_simp; (try with_reducible rfl); done)); (try simp only [put_rules]))
            (refine wpAnyH_take (i := 12) (v := ?_) rfl (by kernel_rfl) (by kernel_rfl) (by kernel_rfl) (fun _ _ _ h => h) (Or.inl ⟨by rfl, ?_⟩) (by assumption) ?_; rotate_left; (focus (intro w hSw; (try dsimp only at hSw); go_simp; (try with_reducible rfl); done)); (try simp only [put_rules]))
            (refine wpAnyH_take (i := 13) (v := ?_) rfl (by kernel_rfl) (by kernel_rfl) (by kernel_rfl) (fun _ _ _ h => h) (Or.inl ⟨by rfl, ?_⟩) (by assumption) ?_; rotate_left; (focus (intro w hSw; (try dsimp only at hSw); go_simp; (try with_reducible rfl); done)); (try simp only [put_rules]))
            (refine wpAnyH_ready (rs := [14]) (by kernel_rfl) (by simp) ?_; refine AllReadyH.cons rfl (fun K hK => ?_) AllReadyH.nil)
            go_simp
            refine hK.out _ _ hS9 (fun hS10 => ?_)
            clear hK hS9
            (try simp only [put_rules])
            (refine wpAnyH_ready (rs := [15]) (by kernel_rfl) (by simp) ?_; refine AllReadyH.cons rfl (fun K hK => ?_) AllReadyH.nil)
            go_simp
            refine hK.out _ _ hS10 (fun hS11 => ?_)
            clear hK hS10 hS11
            (try simp only [put_rules])
            (refine wpAnyH_done (by kernel_rfl) ?_ _)
            cases hm : matchF n L zs with
            | some r =>
              rw [hm] at hI4
              have hR : Hid (R = some r) := by unfold Hid; rw [hr.out]; exact hfs.out r (hJ2.out.trans hm)
              clear hfs hfn hm hJ2
              go_wp2_with fail
              go_ret2
              rw [hR.out]
              exact ⟨D4, dc4, rfl, hI4.out, hB6.out⟩
            | none =>
              have HR2 := Lib.hid (hfn.out (hJ2.out.trans hm))
              clear hfs hfn hm hJ2 hI4
              go_wp2_with fail
              go_roundw
              case rel => exact ⟨k + 1, by omega, by go_num, HR2, hB6⟩
              case measure => simp [intOf]; omega
        · rw [hh] at hco
          have HR2 := Lib.hid (hfn.out (by rw [hJk.out, if_pos hh]))
          replace hco := Lib.hid hco
          clear hfs hfn hh hJk
          go_wp2_with fail
          refine hco.out.mono ?_
          rintro e w2 ⟨rfl, rfl⟩
          go_wp2_with fail
          go_roundw
          case rel => exact ⟨k + 1, by omega, by go_num, HR2, HB⟩
          case measure => simp [intOf]; omega
      · obtain rfl : k = l.length := by omega
        have hR : Hid (R = none) := by unfold Hid; rw [hr.out]; have := HR.out; rwa [List.take_length] at this
        have hZ := Lib.hid (bal HB.out (.cells #[] 3))
        go_wp2_with fail
        go_ret2
        rw [hR.out]
        exact ⟨_, 0, rfl, ints_nil _ _, hZ.out⟩
end Go.Proofs.Yteabiokhbaekpaa

/- Contract: the first matching, in the reference. -/
namespace Go.Proofs.Yteabiokhbaekpaa
open Go.RowKit

set_option maxRecDepth 100000 in
set_option maxHeartbeats 4000000 in
theorem specFirst_any (A : Option Addr) (c : Nat) (L : List (List Int)) (w : World) (hx : ClsAt w A L) (hl : L.length ≤ 1000) (hs : ∀ l ∈ L, l.length ≤ 1000) :
    Calls Try.prog 10 #[.slice A L.length c] w (MOut (fmR L) w) := by
  have hic := Lib.hid (l28Choice_any A c L w hx hl hs)
  have hm := Lib.hid (fun W B cc (h : Below w.heap.size w W) => l28Match_any A c L hl hs L.length [] B cc W (by simp) (hx.grow h) (ints_nil _ _))
  unfold fmR
  cases h : choiceB L with
  | false =>
    rw [h] at hic
    rw [if_neg (by simp)]
    clear h
    go_enter Try.func10, Try.ntmps10
    go_wp2_with fail
    refine hic.out.mono ?_
    rintro e w1 ⟨rfl, hb1⟩
    have hZ := Lib.hid (bal hb1 (.cells #[] 3))
    clear hb1
    go_wp2_with fail
    go_ret2
    exact ⟨_, 0, rfl, ints_nil _ _, hZ.out⟩
  | true =>
    rw [h] at hic
    rw [if_pos rfl]
    generalize matchF L.length L [] = R at *
    clear h
    go_enter Try.func10, Try.ntmps10
    go_wp2_with fail
    refine hic.out.mono ?_
    rintro e w1 ⟨rfl, hb1⟩
    have hZ := Lib.hid (bal hb1 (.cells #[] 3))
    clear hb1
    go_wp2_with fail
    refine (hm.out _ _ _ hZ.out).mono ?_
    rintro e w2 ⟨D, dc, rfl, hI, hb0⟩
    have hb := btr hZ.out hb0
    clear hb0
    replace hI := Lib.hid hI
    go_wp2_with fail
    go_ret2
    exact ⟨D, dc, rfl, hI.out, hb⟩
end Go.Proofs.Yteabiokhbaekpaa

/- Contract: a model told by the program, at a valid Cnf. -/
namespace Go.Proofs.Yteabiokhbaekpaa
open Go.RowKit

theorem withinH {x a b : Int} {q : Bool} (h : inB x a b = q) (w : World) : Calls Try.prog 28 #[.int .i64 x, .int .i64 a, .int .i64 b] w fun e w' => e = .returned (.bool q) ∧ Below w.heap.size w w' :=
  (within_any x a b w).mono fun e w' ⟨h1, h2⟩ => ⟨by rw [h1, h], h2 ▸ bb _⟩
set_option maxRecDepth 100000 in
set_option maxHeartbeats 4000000 in
theorem isModelH_any (n b : Nat) (v : Value) (xss : List (List Int)) (F : List Nat) (w : World) (hx : (Ty.slice Ty.int).row false w v xss F) (h1 : goodB n xss = true) (hb : b < 2 ^ n) :
    Calls Try.prog 17 #[.agg #[.int .i64 n, v], .int .i64 b] w fun e w' => e = .returned (.tuple #[.bool (modT xss b), .bool true]) ∧ Below w.heap.size w w' := by
  obtain ⟨A, cap, rfl, hI⟩ := cls_row hx
  have hg := good_cnf h1
  have hn : n ≤ 12 := by omega
  obtain ⟨hsh, hp⟩ := pow12 hn
  have hN1 : 1 ≤ 2 ^ n := Nat.one_le_two_pow
  have S0 := (Sp.start w).alloc_box #[.int .i64 n, .slice A xss.length cap] 31
  have hcall0 := implIsCnf_any n _ xss F _ (Ty.row_below hx S0.below (Ty.row_lt hx))
  rw [h1] at hcall0
  replace hcall0 := Lib.hid hcall0
  have hcall := Lib.hid (fun W (h : Below w.heap.size w W) => isModel_any xss hg.2.2.2 (by omega) A cap b (by omega) W (hI.grow h))
  have hin : inB (b : Int) 0 (((2 ^ n : Nat) : Int) - 1) = true := inB_true.2 (by omega)
  have hn0 : (0 : Int) ≤ n := by omega
  generalize modT xss b = q at *
  generalize 2 ^ n = N at *
  have hw1 : IntKind.i64.wrap ((N : Int) - 1) = (N : Int) - 1 := IntWalk.i64_in _ (by omega)
  have hwi := Lib.hid (fun W => withinH hin W)
  replace S0 := Lib.hid S0
  clear hx hI hg hin h1
  go_enter Try.func17, Try.ntmps17
  go_wp2_with fail
  refine hcall0.out.mono ?_
  rintro e w1 ⟨rfl, hb1⟩
  have S1 := S0.out.grow hb1
  have c0 := S1.cell (i := 0) rfl (o := 0) rfl
  replace S1 := Lib.hid S1
  clear S0 hb1 hcall0
  go_wp2_with fail
  try rw [hsh]
  try rw [hw1]
  refine (hwi.out _).mono ?_
  rintro e w2 ⟨rfl, hb2⟩
  have S2 := S1.out.grow hb2
  have c1 := S2.cell (i := 0) rfl (o := 1) rfl
  have hc := Lib.hid (hcall.out _ S2.below)
  replace S2 := Lib.hid S2
  clear S1 hb2 hcall
  go_wp2_with fail
  refine hc.out.mono ?_
  rintro e w3 ⟨rfl, hb3⟩
  have hB := btr S2.out.below hb3
  go_wp2_with fail
  go_ret2
  exact ⟨rfl, hB⟩
end Go.Proofs.Yteabiokhbaekpaa
