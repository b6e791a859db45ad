/- Lemmas and contracts for a law, put together out of several texts: HlP HlR HlE. -/
import Derived.Test.YteabiokhbaekpaaMg7
import Derived.Test.YteabiokhbaekpaaMg6
import Derived.Test.YteabiokhbaekpaaMg5
import Derived.Test.YteabiokhbaekpaaMg4
/- Contract: the Cnf of a choice, in the program. -/
namespace Go.Proofs.Yteabiokhbaekpaa
open Go.RowKit

def chV (L : List (List Int)) : Int := if choiceB L then giveV (chN L) (chX L) else 0
def chY (L : List (List Int)) : List (List Int) := if choiceB L then giveL (chN L) (chX L) else []
def chB (L : List (List Int)) : Bool := choiceB L && goodB (chN L) (chX L)
abbrev OwnL (D : Option Addr) (dc : Nat) (xs : List Int) : Asn := Own 3 1 (.slice D xs.length dc) xs.length (xs.map (.int .i64))

set_option maxRecDepth 100000 in
set_option maxHeartbeats 8000000 in
theorem implChoice_any (hmc : MustC) (A : Option Addr) (c : Nat) (L : List (List Int)) (w : World) (hx : ClsAt w A L) (hl : L.length ≤ 1000) (hs : ∀ l ∈ L, l.length ≤ 1000) :
    Calls Try.prog 11 #[.slice A L.length c] w (CnfR w (chV L) (chY L) (chB L)) := by
  obtain ⟨i0, hi0, hy0, hy1, hy2⟩ := info_parts infoInt
  have Sa := (Sp.start w).alloc_box #[.int .i64 0, .slice none 0 0] 31
  have hic := Lib.hid (fun W (h : Below w.heap.size w W) => implIsChoice_any A c L W (hx.grow h) hl hs)
  have hBa := Lib.hid Sa.below
  unfold chV chY chB
  cases h : choiceB L with
  | false =>
    rw [h] at hic
    rw [if_neg (by simp), if_neg (by simp), Bool.false_and]
    have j0 := Sa.cell (i := 0) rfl (o := 0) rfl
    have j1 := Sa.cell (i := 0) rfl (o := 1) rfl
    clear h Sa
    go_enter Try.func11, Try.ntmps11
    go_wp2_with fail
    refine (hic.out _ hBa.out).mono ?_
    rintro e w1 ⟨rfl, rfl⟩
    go_wp2_with fail
    exact bodyPost_ret (v := .tuple #[.agg #[.int .i64 0, .slice none 0 0], .bool false]) (by simp [results, Try.results11, go_sem, j0, j1]) rfl ⟨none, 0, [], rfl, Ty.row_nil _ _ _ _ _ (by decide), hBa.out⟩
  | true =>
    rw [h] at hic
    rw [if_pos rfl, if_pos rfl, Bool.true_and]
    obtain ⟨h4, hlst⟩ := choice_parts h
    have hX := Lib.hid hx
    replace hlst := Lib.hid hlst
    replace hmc := Lib.hid hmc
    have S0 := (((Sa.alloc_box #[.int .i64 0, .slice none 0 0] 46).rows_nil Ty.int 26).own_nil 3 1).own_nil 3 1
    simp only [World.size_alloc] at S0
    obtain ⟨fb, hfb⟩ : ∃ fb, w.heap.size + 1 = fb := ⟨_, rfl⟩
    rw [hfb] at S0
    have S1 : Hid (Sp w _ [OwnL none 0 (pigT L 0), OwnL none 0 (holT L 0), Rows Ty.int 26 (.slice none (nodT L 0).length 0) [] (nodT L 0), Box fb 46 #[.int .i64 (holT L 0).length, .slice none (nodT L 0).length 0], Box w.heap.size 31 #[.int .i64 0, .slice none 0 0]]) := S0
    clear S0 Sa h hx
    generalize hn : L.length = n at *
    have hn' := Lib.hid hn
    clear hn
    go_enter Try.func11, Try.ntmps11
    go_wp2_with fail
    refine (hic.out _ hBa.out).mono ?_
    rintro e w1 ⟨rfl, rfl⟩
    clear hic hBa
    go_wp2_with fail
    clear hfb
    go_loopw [5, 6, 22] (fun v5 v6 v22 wr => ∃ (i : Nat) (D1 D2 B : Option Addr) (d1 d2 bc : Nat) (cs : List Value), i ≤ n ∧ v22 = .int .i64 i ∧ v5 = .slice D1 (pigT L i).length d1 ∧ v6 = .slice D2 (holT L i).length d2 ∧ Hid (Sp w wr [OwnL D1 d1 (pigT L i), OwnL D2 d2 (holT L i), Rows Ty.int 26 (.slice B (nodT L i).length bc) cs (nodT L i), Box fb 46 #[.int .i64 (holT L i).length, .slice B (nodT L i).length bc], Box w.heap.size 31 #[.int .i64 0, .slice none 0 0]])) (fun _ _ v22 _ => n - (intOf v22).toNat)
    case atStart => exact ⟨0, none, none, none, 0, 0, 0, [], Nat.zero_le _, rfl, rfl, rfl, S1⟩
    case round =>
      clear S1
      obtain ⟨i, D1, D2, B, d1, d2, bc, cs, hi, rfl, rfl, rfl, HS⟩ := hrel
      by_cases hlt : i < n
      · --{ one
        have hiL : i < L.length := by rw [hn'.out]; exact hlt
        obtain ⟨b1, o1, D3, d3, hA, m00, hI0⟩ := hX.out.at_ i hiL
        subst hA
        have m0 := (HS.out.below.cell (World.block_lt_of_cell? _ _ m00)).trans m00
        have hI := Lib.hid (fun W (h : Below w.heap.size w W) => hI0.grow h)
        clear m00 hI0
        have hl3 := lst_len (hlst.out _ (List.getElem_mem hiL))
        have hPs := Lib.hid (pigT_succ hiL)
        have hHs := Lib.hid (holT_succ hiL)
        have hNs := Lib.hid (nodT_succ hiL)
        have hpl : Hid ((pigT L i).length = (holT L i).length) := pig_hol (by omega)
        have hhs : Hid ((holT L i).length ≤ 3 * i) := hol_small hlst.out (by omega)
        have hnl := Lib.hid (nodT_len L i)
        generalize L[i] = l at *
        generalize pigT L i = P0 at *
        generalize holT L i = H0 at *
        generalize nodT L i = X at *
        obtain ⟨a, ha⟩ : ∃ a, H0.length = a := ⟨_, rfl⟩
        have hab : a ≤ 12 := by have := hhs.out; omega
        have S2 := Lib.hid (HS.out.own_nil 3 1)
        have ha' := Lib.hid ha
        have hpl' : Hid (P0.length = a) := hpl.out.trans ha
        have e0 : Hid (seqC a 0 = []) := rfl
        have S3 : Hid (Sp w wr [OwnL none 0 [], OwnL D1 d1 P0, OwnL D2 d2 H0, Rows Ty.int 26 (.slice B X.length bc) cs X, Box fb 46 #[.int .i64 (a : Int), .slice B X.length bc], Box w.heap.size 31 #[.int .i64 0, .slice none 0 0]]) := by rw [← ha]; exact S2.out
        clear HS S2 hpl hhs ha
        rename World => wo
        go_wp2_with fail
        clear m0
        go_loopw [5, 6, 9, 29] (fun v5 v6 v9 v29 wr => ∃ (k : Nat) (V : Int) (zs ps hs : List Int) (DC DP DH : Option Addr) (dc dp dh : Nat), k ≤ l.length ∧ v29 = .int .i64 k ∧ v9 = .slice DC zs.length dc ∧ v5 = .slice DP ps.length dp ∧ v6 = .slice DH hs.length dh ∧ Hid (V = (a : Int) + k) ∧ Hid (zs = seqC a k) ∧ Hid (ps = P0 ++ List.replicate k (i : Int)) ∧ Hid (hs = H0 ++ l.take k) ∧ Hid (Sp w wr [OwnL DC dc zs, OwnL DP dp ps, OwnL DH dh hs, Rows Ty.int 26 (.slice B X.length bc) cs X, Box fb 46 #[.int .i64 V, .slice B X.length bc], Box w.heap.size 31 #[.int .i64 0, .slice none 0 0]])) (fun _ _ _ v29 _ => l.length - (intOf v29).toNat)
        case atStart => exact ⟨0, a, [], P0, H0, none, D1, D2, 0, d1, d2, Nat.zero_le _, rfl, rfl, rfl, rfl, by unfold Hid; simp, e0.out.symm, by unfold Hid; simp, by unfold Hid; simp, S3⟩
        case round =>
          clear S3
          obtain ⟨k, V, zs, ps, hs, DC, DP, DH, dc, dp, dh, hk, rfl, rfl, rfl, rfl, hV, hzs, hps, hhs, HS⟩ := hrel
          by_cases hlt2 : k < l.length
          · obtain ⟨b2, o2, hE, m2⟩ := (hI.out _ HS.out.below).at_ k hlt2
            subst hE
            have hVb : 0 ≤ V ∧ V ≤ 20 := by have := hV.out; omega
            have hz12 : zs.length ≤ 12 := by rw [hzs.out, seqC_len]; omega
            have hp12 : ps.length ≤ 24 := by rw [hps.out, List.length_append, List.length_replicate, hpl'.out]; omega
            have hh12 : hs.length ≤ 24 := by rw [hhs.out, List.length_append, List.length_take, ha'.out]; omega
            have hz2 : Hid (zs ++ [V + 1] = seqC a (k + 1)) := by unfold Hid; rw [seqC_succ, hzs.out, hV.out]
            have hp2 : Hid (ps ++ [(i : Int)] = P0 ++ List.replicate (k + 1) (i : Int)) := by unfold Hid; rw [hps.out, List.replicate_succ', List.append_assoc]
            have hh2 : Hid (hs ++ [l[k]] = H0 ++ l.take (k + 1)) := by unfold Hid; rw [hhs.out, List.take_succ_eq_append_getElem hlt2, List.append_assoc]
            have hV2 : Hid (V + 1 = (a : Int) + ((k + 1 : Nat) : Int)) := by unfold Hid; have := hV.out; omega
            generalize l[k] = j at *
            have c0 := HS.out.cell (i := 4) rfl (o := 0) rfl
            have f0 := HS.out.frozen (i := 4) rfl 0
            have S2 := HS.out.store (i := 4) rfl 0 (.int .i64 (V + 1))
            have c1 := S2.cell (i := 4) rfl (o := 0) rfl
            replace S2 := Lib.hid S2
            clear HS hV hzs hps hhs
            have S3 := S2.out.alloc_box #[.int .i64 (V + 1)] 3
            (try simp only [World.size_setCell] at S3)
            have kB := S3.cell (i := 0) rfl (o := 0) rfl
            replace S3 := Lib.hid S3
            clear S2
            go_wp2_with (at_builtin; refine wpList_append_src rfl _ _ rfl Try.underlying26 hi0 hy0 hy1 hy2 rfl (by decide) _ _ _ rfl (S3.out.own (i := 1) rfl) _ 1 1 [.int .i64 (V + 1)] rfl (Src.one kB) (by simp [Value.oneCell']) ?c3 ?c4 ?_)
            case c3 => unfold maxLen; omega
            case c4 => omega
            intro vY wY hownY hgY hatY
            have S4 := (S3.out.own_push (i := 1) rfl (bb _) hownY hgY (by simpa using hatY)).tail
            obtain ⟨aY, cY, rfl⟩ := own_slice hownY
            have S5 := Lib.hid (ownI_snoc (d := zs) (x := (V + 1)) S4)
            clear S3 S4 kB hownY hgY hatY
            have hlen : zs.length + 1 = (zs ++ [(V + 1)]).length := by simp
            rw [hlen]
            replace hlen := Lib.hid hlen
            clear hlen c0 f0 c1 m2
            generalize aY = aC at *
            generalize cY = cC at *
            generalize zs ++ [V + 1] = z2 at *
            have S6 := Lib.hid (Sp.pick [1, 0, 0, 0, 0, 0] S5.out rfl)
            clear S5
            have S3 := S6.out.alloc_box #[.int .i64 (i : Int)] 3
            (try simp only [World.size_setCell] at S3)
            have kB := S3.cell (i := 0) rfl (o := 0) rfl
            replace S3 := Lib.hid S3
            clear S6
            go_wp2_with (at_builtin; refine wpList_append_src rfl _ _ rfl Try.underlying26 hi0 hy0 hy1 hy2 rfl (by decide) _ _ _ rfl (S3.out.own (i := 1) rfl) _ 1 1 [.int .i64 (i : Int)] rfl (Src.one kB) (by simp [Value.oneCell']) ?c3 ?c4 ?_)
            case c3 => unfold maxLen; omega
            case c4 => omega
            intro vY wY hownY hgY hatY
            have S4 := (S3.out.own_push (i := 1) rfl (bb _) hownY hgY (by simpa using hatY)).tail
            obtain ⟨aY, cY, rfl⟩ := own_slice hownY
            have S5 := Lib.hid (ownI_snoc (d := ps) (x := (i : Int)) S4)
            clear S3 S4 kB hownY hgY hatY
            have hlen : ps.length + 1 = (ps ++ [(i : Int)]).length := by simp
            rw [hlen]
            replace hlen := Lib.hid hlen
            clear hlen
            generalize aY = aP at *
            generalize cY = cP at *
            generalize ps ++ [(i : Int)] = p2 at *
            have S7 := Lib.hid (Sp.pick [2, 0, 0, 0, 0, 0] S5.out rfl)
            clear S5
            have S3 := S7.out.alloc_box #[.int .i64 j] 3
            (try simp only [World.size_setCell] at S3)
            have kB := S3.cell (i := 0) rfl (o := 0) rfl
            replace S3 := Lib.hid S3
            clear S7
            go_wp2_with (at_builtin; refine wpList_append_src rfl _ _ rfl Try.underlying26 hi0 hy0 hy1 hy2 rfl (by decide) _ _ _ rfl (S3.out.own (i := 1) rfl) _ 1 1 [.int .i64 j] rfl (Src.one kB) (by simp [Value.oneCell']) ?c3 ?c4 ?_)
            case c3 => unfold maxLen; omega
            case c4 => omega
            intro vY wY hownY hgY hatY
            have S4 := (S3.out.own_push (i := 1) rfl (bb _) hownY hgY (by simpa using hatY)).tail
            obtain ⟨aY, cY, rfl⟩ := own_slice hownY
            have S5 := Lib.hid (ownI_snoc (d := hs) (x := j) S4)
            clear S3 S4 kB hownY hgY hatY
            have hlen : hs.length + 1 = (hs ++ [j]).length := by simp
            rw [hlen]
            replace hlen := Lib.hid hlen
            clear hlen
            generalize aY = aH at *
            generalize cY = cH at *
            generalize hs ++ [j] = h2 at *
            have S8 := Lib.hid (Sp.pick [2, 1, 0, 0, 0, 0] S5.out rfl)
            clear S5
            go_wp2_with fail
            go_roundw
            case rel => exact ⟨k + 1, V + 1, z2, p2, h2, aC, aP, aH, cC, cP, cH, by omega, by go_num, rfl, rfl, rfl, hV2, hz2, hp2, hh2, S8⟩
            case measure => simp [intOf]; omega
          · obtain rfl : k = l.length := by omega
            have hzz := hzs.out
            have hgd : Hid (GoodS zs) := by unfold Hid; rw [hzz]; exact seqC_good (by omega)
            have hLi := HS.out.ints (i := 0) rfl (fun x hx => (hgd.out.mem x hx).i64)
            have hmu := fun W' (h : Below wr.heap.size wr W') => hmc.out zs DC dc W' (hLi.grow h) hgd.out.mem (by rw [hzz, seqC_len]; omega)
            rw [clauseR_self hgd.out, Option.getD_some] at hmu
            have hadd := Lib.hid (famAdd_any fb V B bc cs X [OwnL DP dp ps, OwnL DH dh hs, Box w.heap.size 31 #[.int .i64 0, .slice none 0 0]] w wr zs DC zs.length dc hmu (fun x hx => (hgd.out.mem x hx).i64) (by rw [hnl.out]; omega) (Sp.pick [3, 3, 1, 1, 1] HS.out rfl))
            have hX2 : Hid (X ++ [zs] = nodT L (i + 1)) := by unfold Hid; rw [hNs.out, hzz, ha'.out]
            have hps2 : Hid (ps = pigT L (i + 1)) := by unfold Hid; rw [hPs.out, hps.out]
            have hhs2 : Hid (hs = holT L (i + 1)) := by unfold Hid; rw [hHs.out, hhs.out, List.take_length]
            have hVn : Hid (V = ((holT L (i + 1)).length : Int)) := by unfold Hid; rw [hHs.out, List.length_append, ha'.out, hV.out]; push_cast; rfl
            rw [hX2.out] at hadd
            clear hmu hLi HS hzz hzs hps hhs hV hgd
            go_wp2_with fail
            refine hadd.out.mono ?_
            rintro e w3 ⟨rfl, B3, c3, cs3, S4⟩
            have S5 := Lib.hid (Sp.pick [2, 2, 0, 0, 0] S4 rfl)
            have e1 := hps2.out
            have e2 := hhs2.out
            have e3 := hVn.out
            subst e1
            subst e2
            subst e3
            clear hadd S4
            go_wp2_with fail
            go_roundw
            case rel => exact ⟨i + 1, DP, DH, B3, dp, dh, c3, cs3, by omega, by go_num, rfl, rfl, S5⟩
            case measure => simp [intOf]; omega
        --} one
      · obtain rfl : i = n := by omega
        --{ two
        have hpl := Lib.hid (pig_hol (L := L) (m := i) (by have := hn'.out; omega))
        have hhs := hol_small hlst.out (m := i) (by have := hn'.out; omega)
        have hr1 := Lib.hid (hol_rng hlst.out (m := i))
        have hr2 := Lib.hid (pig_rng (L := L) (m := i))
        have hnl := Lib.hid (nodT_len L i)
        have hfin : Hid (chX L = nodT L i ++ prO (pigT L i) (holT L i) (holT L i).length (holT L i).length) := by unfold Hid chX chN; rw [hn'.out]
        have hcN : Hid (chN L = (holT L i).length) := by unfold Hid chN; rw [hn'.out]
        generalize pigT L i = P at *
        generalize holT L i = H at *
        generalize nodT L i = X0 at *
        obtain ⟨N, hN⟩ : ∃ N, H.length = N := ⟨_, rfl⟩
        have hH' := Lib.hid hN
        rw [hN] at hfin hcN hpl hhs
        have hN12 : N ≤ 12 := by omega
        have hz0 : Hid (X0 ++ prO P H N 0 = X0) := by unfold Hid prO; simp
        have S3 : Hid (Sp w wr [OwnL D1 d1 P, OwnL D2 d2 H, Rows Ty.int 26 (.slice B (X0 ++ prO P H N 0).length bc) cs (X0 ++ prO P H N 0), Box fb 46 #[.int .i64 N, .slice B (X0 ++ prO P H N 0).length bc], Box w.heap.size 31 #[.int .i64 0, .slice none 0 0]]) := by rw [hz0.out, ← hN]; exact HS.out
        have c0 := HS.out.cell (i := 3) rfl (o := 0) rfl
        rw [hN] at c0
        have hP64 : Hid (∀ x ∈ P, I64 x) := fun x hx => by have := hr2.out x hx; unfold I64; omega
        have hH64 : Hid (∀ x ∈ H, I64 x) := fun x hx => by have := hr1.out x hx; unfold I64; omega
        clear HS hN
        rename World => wo
        go_wp2_with fail
        clear c0
        go_loopw [64] (fun v64 wr => ∃ (v : Nat) (B : Option Addr) (bc : Nat) (cs : List Value), v ≤ N ∧ v64 = .int .i64 v ∧ Hid (Sp w wr [OwnL D1 d1 P, OwnL D2 d2 H, Rows Ty.int 26 (.slice B (X0 ++ prO P H N v).length bc) cs (X0 ++ prO P H N v), Box fb 46 #[.int .i64 N, .slice B (X0 ++ prO P H N v).length bc], Box w.heap.size 31 #[.int .i64 0, .slice none 0 0]])) (fun v64 _ => N - (intOf v64).toNat)
        case atStart => exact ⟨0, B, bc, cs, Nat.zero_le _, rfl, S3⟩
        case round =>
          clear S3
          obtain ⟨v, B, bc, cs, hv, rfl, HS⟩ := hrel
          by_cases hlt2 : v < N
          · have hz1 : Hid (X0 ++ prO P H N v ++ prI P H v (v + 1) = X0 ++ prO P H N v) := by unfold Hid; rw [prI_start, List.append_nil]
            have hol1 := prO_len P H N v
            have hol2 : (X0 ++ prO P H N v).length ≤ 200 := by
              have := Nat.mul_le_mul (show v ≤ 12 by omega) hN12
              rw [List.length_append, hnl.out]; omega
            have hnext : Hid (X0 ++ prO P H N v ++ prI P H v N = X0 ++ prO P H N (v + 1)) := by unfold Hid; rw [prO_succ, List.append_assoc]
            generalize X0 ++ prO P H N v = X1 at *
            have S4 : Hid (Sp w wr [OwnL D1 d1 P, OwnL D2 d2 H, Rows Ty.int 26 (.slice B (X1 ++ prI P H v (v + 1)).length bc) cs (X1 ++ prI P H v (v + 1)), Box fb 46 #[.int .i64 N, .slice B (X1 ++ prI P H v (v + 1)).length bc], Box w.heap.size 31 #[.int .i64 0, .slice none 0 0]]) := by rw [hz1.out]; exact HS
            clear HS
            rename World => wo2
            go_wp2_with fail
            go_loopw [13] (fun v13 wr => ∃ (u : Nat) (B : Option Addr) (bc : Nat) (cs : List Value), (v + 1 ≤ u ∧ u ≤ N) ∧ v13 = .int .i64 u ∧ Hid (Sp w wr [OwnL D1 d1 P, OwnL D2 d2 H, Rows Ty.int 26 (.slice B (X1 ++ prI P H v u).length bc) cs (X1 ++ prI P H v u), Box fb 46 #[.int .i64 N, .slice B (X1 ++ prI P H v u).length bc], Box w.heap.size 31 #[.int .i64 0, .slice none 0 0]])) (fun v13 _ => N - (intOf v13).toNat)
            case atStart => exact ⟨v + 1, B, bc, cs, ⟨Nat.le_refl _, by omega⟩, by go_num, S4⟩
            case round =>
              clear S4
              obtain ⟨u, B, bc, cs, ⟨hu0, hu1⟩, rfl, HS⟩ := hrel
              have c0 := HS.out.cell (i := 3) rfl (o := 0) rfl
              by_cases hlt3 : u < N
              · have hvP : v < P.length := by rw [hpl.out]; omega
                have huP : u < P.length := by rw [hpl.out]; omega
                have hvH : v < H.length := by rw [hH'.out]; omega
                have huH : u < H.length := by rw [hH'.out]; omega
                have hIP := HS.out.ints (i := 0) rfl hP64.out
                have hIH := HS.out.ints (i := 1) rfl hH64.out
                obtain ⟨b1, o1, hA1, m1⟩ := hIP.at_ v hvP
                obtain ⟨_, _, e2, m2⟩ := hIP.at_ u huP
                obtain ⟨b2, o2, hA2, m3⟩ := hIH.at_ v hvH
                obtain ⟨_, _, e4, m4⟩ := hIH.at_ u huH
                subst hA1
                subst hA2
                cases e2
                cases e4
                have k1 := cell_regrown m1
                have k2 := cell_regrown m2
                have k3 := cell_regrown m3
                have k4 := cell_regrown m4
                have hcon : Hid (conC P H v u = ((P[v] != P[u]) && (H[v] == H[u]))) := by
                  unfold Hid conC
                  simp [List.getD_eq_getElem?_getD, List.getElem?_eq_getElem, hvP, huP, hvH, huH]
                have hstep := Lib.hid (prI_succ P H v u)
                have hxl : Hid ((X1 ++ prI P H v u).length ≤ 1000) := by
                  have := prI_len P H v u
                  unfold Hid; rw [List.length_append]; omega
                generalize P[v] = p1 at *
                generalize P[u] = p2 at *
                generalize H[v] = h1 at *
                generalize H[u] = h2 at *
                clear m1 m2 m3 m4 hIP hIH
                cases hq : ((p1 != p2) && (h1 == h2))
                · have hn2 : Hid (X1 ++ prI P H v (u + 1) = X1 ++ prI P H v u) := by unfold Hid; rw [hstep.out, hcon.out, hq]; simp
                  by_cases hp : p1 = p2
                  · have hpb : (p1 == p2) = true := by simp [hp]
                    go_wp2_with fail
                    refine wp_region_quiet_below (by kernel_rfl) (by kernel_rfl) ?_
                    repeat (any_goals (go_big_quiet_step (fail)))
                    refine wpQuiet_nil ?_
                    rintro w3 ⟨p, rfl⟩
                    have S6 := Lib.hid (HS.out.grow (below_regrown _ p.d p.os))
                    rw [← hn2.out] at S6
                    clear HS k1 k2 k3 k4 c0
                    go_wp2_with fail
                    go_roundw
                    case rel => exact ⟨u + 1, B, bc, cs, ⟨by omega, by omega⟩, by go_num, S6⟩
                    case measure => simp [intOf]; omega
                  · have hpb : (p1 == p2) = false := by simp [hp]
                    have hhb : (h1 == h2) = false := by simpa [hp] using hq
                    have hpb2 : (p1 != p2) = true := by simp [bne, hpb]
                    replace hq := Lib.hid hq
                    go_wp2_with fail
                    refine wp_region_quiet_below (by kernel_rfl) (by kernel_rfl) ?_
                    repeat (any_goals (go_big_quiet_step (fail)))
                    refine wpQuiet_nil ?_
                    rintro w3 ⟨p, rfl⟩
                    have S6 := Lib.hid (HS.out.grow (below_regrown _ p.d p.os))
                    rw [← hn2.out] at S6
                    clear HS k1 k2 k3 k4 c0
                    go_wp2_with fail
                    go_roundw
                    case rel => exact ⟨u + 1, B, bc, cs, ⟨by omega, by omega⟩, by go_num, S6⟩
                    case measure => simp [intOf]; omega
                · skip
                  have hpb : (p1 == p2) = false := by cases h : (p1 == p2) with
                    | false => rfl
                    | true => simp [bne, h] at hq
                  have hhb : (h1 == h2) = true := by simp [bne, hpb] at hq; simpa using hq
                  have hpn : ¬ p1 = p2 := by simpa using hpb
                  have hhn : h1 = h2 := by simpa using hhb
                  have hn2 : Hid (X1 ++ prI P H v u ++ [[-(v : Int) - 1, -(u : Int) - 1]] = X1 ++ prI P H v (u + 1)) := by
                    unfold Hid; rw [hstep.out, hcon.out, hq, decide_eq_true (by omega : v < u)]; simp [prC]
                  have hpb2 : (p1 != p2) = true := by simp [bne, hpb]
                  replace hq := Lib.hid hq
                  have hpg := Lib.hid (prC_good (v := v) (u := u) (by omega) (by omega))
                  go_wp2_with fail
                  refine wp_region_quiet_below (by kernel_rfl) (by kernel_rfl) ?_
                  repeat (any_goals (go_big_quiet_step (fail)))
                  refine wpQuiet_nil ?_
                  rintro w4 ⟨p, hw4⟩
                  have S6 := Lib.hid (HS.out.grow (hw4 ▸ below_regrown _ _ _ : Below wr.heap.size wr w4))
                  clear hw4 HS k1 k2 k3 k4 c0
                  have S7 := S6.out.alloc_box #[.int .i64 (-(v : Int) - 1), .int .i64 (-(u : Int) - 1)] 3
                  have kA := S7.cell (i := 0) rfl (o := 0) rfl
                  have kB := S7.cell (i := 0) rfl (o := 1) rfl
                  have hI2 : IntsAt _ (some ⟨w4.heap.size, 0, none⟩) (prC v u) := ⟨fun t ht => by
                    have : t = 0 ∨ t = 1 := by simp [prC] at ht; omega
                    rcases this with rfl | rfl
                    · exact ⟨_, 0, rfl, kA⟩
                    · exact ⟨_, 0, rfl, kB⟩, fun x hx => (hpg.out.mem x hx).i64⟩
                  have hmu := fun W' (h : Below (w4.alloc (.cells #[.int .i64 (-(v : Int) - 1), .int .i64 (-(u : Int) - 1)] 3)).heap.size _ W') => hmc.out (prC v u) (some ⟨w4.heap.size, 0, none⟩) 2 W' (hI2.grow h) hpg.out.mem (by simp [prC])
                  rw [clauseR_self hpg.out, Option.getD_some] at hmu
                  have hadd := Lib.hid (famAdd_any fb N B bc cs (X1 ++ prI P H v u) [OwnL (some ⟨b1, o1, none⟩) d1 P, OwnL (some ⟨b2, o2, none⟩) d2 H, Box w.heap.size 31 #[.int .i64 0, .slice none 0 0]] w _ (prC v u) (some ⟨w4.heap.size, 0, none⟩) 2 2 hmu (fun x hx => (hpg.out.mem x hx).i64) hxl.out (Sp.pick [3, 3, 1, 1, 1] S7 rfl))
                  have hn3 : Hid (X1 ++ prI P H v u ++ [prC v u] = X1 ++ prI P H v (u + 1)) := hn2
                  rw [hn3.out] at hadd
                  clear S6 S7 kA kB hI2 hmu
                  go_wp2_with fail
                  refine hadd.out.mono ?_
                  rintro e w5 ⟨rfl, B5, c5, cs5, S8⟩
                  have S9 := Lib.hid (Sp.pick [2, 2, 0, 0, 0] S8 rfl)
                  clear hadd S8
                  go_wp2_with fail
                  go_roundw
                  case rel => exact ⟨u + 1, B5, c5, cs5, ⟨by omega, by omega⟩, by go_num, S9⟩
                  case measure => simp [intOf]; omega
              · obtain rfl : u = N := by omega
                have hlt4 := hlt3
                have S5 := HS
                rw [hnext.out] at S5
                clear HS
                go_wp2_with fail
                go_roundw
                case rel => exact ⟨v + 1, B, bc, cs, by omega, by go_num, S5⟩
                case measure => simp [intOf]; omega
          · obtain rfl : v = N := by omega
            have e1 : Hid (chX L = X0 ++ prO P H v v) := hfin
            clear hfin hr1 hr2 hX hlst hmc hnl hpl
            generalize X0 ++ prO P H v v = xss at *
            have p0 := HS.out.cell (i := 3) rfl (o := 0) rfl
            have p1 := HS.out.cell (i := 3) rfl (o := 1) rfl
            obtain ⟨F, hr, -, -⟩ := HS.out.rows_done (i := 2) rfl
            have hcn := Lib.hid (famCnf_any fb v B bc xss F wr p0 p1 (Ty.row_down hr))
            have HS2 := Lib.hid HS.out
            clear HS hr p0 p1
            go_wp2_with fail
            refine hcn.out.mono ?_
            rintro e w2 ⟨va, A', n', c'', rfl, hb4, h1, h2⟩
            have S5 := HS2.out.grow hb4
            replace h1 := Lib.hid h1
            replace h2 := Lib.hid h2
            have r0 := S5.cell (i := 4) rfl (o := 0) rfl
            have r1 := S5.cell (i := 4) rfl (o := 1) rfl
            have f0 := S5.frozen (i := 4) rfl 0
            have f1 := S5.frozen (i := 4) rfl 1
            have SF := (S5.store (i := 4) rfl 0 (.int .i64 va)).store (i := 4) rfl 1 (.slice A' n' c'')
            have j0 := SF.cell (i := 4) rfl (o := 0) rfl
            have j1 := SF.cell (i := 4) rfl (o := 1) rfl
            have SF2 := Lib.hid (Sp.pick [2] SF rfl)
            clear HS2 S5 SF hcn hb4
            generalize hgo : goodB (v : Int) xss = g at *
            go_wp2_with fail
            subst hgo
            exact bodyPost_ret (v := .tuple #[.agg #[.int .i64 va, .slice A' n' c''], .bool (goodB v xss)]) (by simp [results, Try.results11, go_sem, j0, j1]) rfl (by rw [hcN.out, e1.out]; exact CnfR.of SF2.out h1.out h2.out)
        --} two
end Go.Proofs.Yteabiokhbaekpaa

/- Contracts: the draws of FnHall. -/
namespace Go.Proofs.Yteabiokhbaekpaa
open Go.RowKit

/-- A list of the draw, as it lies. -/
structure Lst where
  D : Option Addr
  d : Nat
  xs : List Int
def Lst.hd (t : Lst) : Value := .slice t.D t.xs.length t.d
def Lst.row (t : Lst) : Asn := OwnL t.D t.d t.xs
def LstOk (k m : Nat) (ks : List Lst) : Prop := ks.length ≤ k ∧ ∀ t ∈ ks, t.xs.length ≤ m ∧ ∀ x ∈ t.xs, I64 x
abbrev LRow (B : Option Addr) (c : Nat) (ks : List Lst) : Asn := Own 26 1 (.slice B ks.length c) ks.length (ks.map Lst.hd)
theorem LstOk.push {k m : Nat} {ks : List Lst} {t : Lst} (h : LstOk k m ks) (h1 : t.xs.length ≤ m) (h2 : ∀ x ∈ t.xs, I64 x) : LstOk (k + 1) m (ks ++ [t]) :=
  ⟨by rw [List.length_append]; exact Nat.succ_le_succ h.1, fun s hs => by
    rcases List.mem_append.1 hs with hs | hs
    · exact h.2 s hs
    · obtain rfl := List.mem_singleton.1 hs; exact ⟨h1, h2⟩⟩
theorem LstOk.put {k m m' i : Nat} {ks : List Lst} {t : Lst} (h : LstOk k m ks) (hm : m ≤ m') (h1 : t.xs.length ≤ m') (h2 : ∀ x ∈ t.xs, I64 x) : LstOk k m' (ks.set i t) :=
  ⟨by rw [List.length_set]; exact h.1, fun s hs => by
    rcases List.mem_or_eq_of_mem_set hs with hs | rfl
    · exact ⟨Nat.le_trans (h.2 s hs).1 hm, (h.2 s hs).2⟩
    · exact ⟨h1, h2⟩⟩
theorem LstOk.more {k k' m m' : Nat} {ks : List Lst} (h : LstOk k m ks) (hk : k ≤ k') (hm : m ≤ m') : LstOk k' m' ks := ⟨Nat.le_trans h.1 hk, fun s hs => ⟨Nat.le_trans (h.2 s hs).1 hm, (h.2 s hs).2⟩⟩
section
variable {w0 w w' w1 : World} {g cl cc A A' i : Nat} {ca : Option Addr} {ps : List Asn} {q : Asn}
theorem CS.bring (h : CS w0 g ca cl cc A w ps) (hi : ps[i]? = some q) : CS w0 g ca cl cc A w (q :: ps.eraseIdx i) := by
  obtain ⟨h0, h1, h2, F, h3, h4⟩ := h
  obtain ⟨F', h5, h6⟩ := sep_bring h3 hi
  exact ⟨h0, h1, h2, F', h5, fun b hb => h4 b (h6 b hb)⟩
theorem CS.own_two (h : CS w0 g ca cl cc A w ps) (a b : Int) : CS w0 g ca cl cc A (w.alloc (.cells #[.int .i64 a, .int .i64 b] 3)) (OwnL (some ⟨w.heap.size, 0, none⟩) 2 [a, b] :: ps) :=
  h.own_new (bal (bb w) _) ⟨rfl, .inr ⟨w.heap.size, 2, #[.int .i64 a, .int .i64 b], rfl, Nat.zero_le _, heap_alloc_new w _, Nat.le_refl _, by decide, by simp, by simp⟩⟩ (fun g hg => by
    have : w.heap.size = g := by simpa [Value.ownBlock] using hg
    omega)
theorem own_cellH {w : World} {B : Nat} {e : TypeId} {n c g : Nat} {cs : List Value} {j : Nat} {u : Value} (h : w.ownsRow B e 1 (.slice (some ⟨g, 0, none⟩) n c) n cs) (hj : cs[j]? = some u) : w.cell? ⟨g, j, none⟩ = some u ∧ w.frozen? ⟨g, j, none⟩ = false := by
  have hlen := h.1
  have hjn : j < cs.length := (List.getElem?_eq_some_iff.1 hj).1
  obtain ⟨g', cap', cur, e1, -, hg, hn, hm, hc, ht⟩ := own_block h (by omega)
  simp only [Value.slice.injEq, Option.some.injEq, Addr.mk.injEq] at e1
  obtain ⟨⟨rfl, _⟩, _, rfl⟩ := e1
  refine ⟨?_, by simp [World.frozen?, hg]⟩
  rw [hown_cell hg ht (j := j) (by omega)]; exact hj
/-- The rows of a list of rows are the lists. -/
theorem lst_cls {B : Option Addr} {c n : Nat} {ks : List Lst} (h : CS w0 g ca cl cc A w ps) (hi : ps[i]? = some (Own 26 1 (.slice B n c) n (ks.map Lst.hd))) (hn : ks.length = n) (hr : ∀ t ∈ ks, t.row ∈ ps) (hI : ∀ t ∈ ks, ∀ x ∈ t.xs, I64 x) : ClsAt w B (ks.map Lst.xs) := by
  subst hn
  have ho := h.own hi
  have ho2 : w.ownsRow 0 26 1 (.slice B ks.length c) (ks.map fun t => (t.hd, t.xs)).length ((ks.map fun t => (t.hd, t.xs)).map Prod.fst) := by
    rw [List.length_map, List.map_map]; exact ho
  obtain ⟨A', c', e, hc⟩ := cls_own ho2 fun q hq => by
    obtain ⟨t, ht, rfl⟩ := List.mem_map.1 hq
    obtain ⟨j, hj⟩ := List.mem_iff_getElem?.1 (hr t ht)
    obtain ⟨D, d, e, hx⟩ := ints_own (h.own hj) (hI t ht)
    exact ⟨D, d, e, hx⟩
  simp only [Value.slice.injEq] at e
  obtain ⟨rfl, -, -⟩ := e
  rw [List.map_map] at hc
  exact hc
end
theorem rows_back {ks : List Lst} {k : Nat} (hk : k < ks.length) : (ks.reverse.map Lst.row)[ks.length - 1 - k]? = some ks[k].row := by
  rw [List.getElem?_map, List.getElem?_reverse (by omega), show ks.length - 1 - (ks.length - 1 - k) = k by omega, List.getElem?_eq_getElem hk]; rfl
theorem rows_left {ks : List Lst} {k : Nat} {u : Lst} {P : Asn} (hk : k < ks.length) : ∀ t ∈ ks.set k u, t.row ∈ u.row :: P :: (ks.reverse.map Lst.row).eraseIdx (ks.length - 1 - k) := fun t ht => by
  obtain ⟨j, hj⟩ := List.mem_iff_getElem?.1 ht
  by_cases h : k = j
  · subst h
    rw [List.getElem?_set_self (by simpa using hk)] at hj
    obtain rfl : u = t := by simpa using hj
    exact List.mem_cons_self ..
  · rw [List.getElem?_set_ne h] at hj
    obtain ⟨hj1, hj2⟩ := List.getElem?_eq_some_iff.1 hj
    refine List.mem_cons_of_mem _ (List.mem_cons_of_mem _ (List.mem_eraseIdx_iff_getElem?.2 ⟨ks.length - 1 - j, by omega, ?_⟩))
    rw [rows_back hj1, hj2]

set_option maxRecDepth 100000 in
set_option maxHeartbeats 8000000 in
theorem cur_choice (A g : Nat) (ca : Option Addr) (cl cc : Nat) (w : World) (h : CurIs A g ca cl cc w) (hA : A ≤ 1000) :
    Calls Try.prog 36 #[.pointer (some ⟨g, 0, none⟩)] w fun e w' => ∃ (B : Option Addr) (c : Nat) (L : List (List Int)), e = .returned (.slice B L.length c) ∧ ClsAt w' B L ∧ (L.length ≤ 5 ∧ ∀ l ∈ L, l.length ≤ 4) ∧ CurIs (A + 50) g ca cl cc w' ∧ Chg [g] w w' := by
  have hg := h.lt
  obtain ⟨i0, hi0, hy0, hy1, hy2⟩ := info_parts infoInt
  obtain ⟨i1, hi1, hrz0, hrz1, hrz2⟩ := info_parts infoRow
  have S0 := ((CS.start h).own_made 26 1).alloc_box #[.int .i64 1, .int .i64 2, .int .i64 3, .int .i64 3, .int .i64 4, .int .i64 4, .int .i64 0, .int .i64 5] 3
  simp only [World.size_alloc] at S0
  replace S0 := Lib.hid S0
  go_enter Try.func36, Try.ntmps36
  go_wp2_with fail
  refine (cur_pick_at (lo := 0) (hi := 23) S0.out.cur (by omega) (by omega) (by omega) (by omega) (by omega)).mono ?_
  rintro e w1 ⟨_, ⟨x, hx0, hx1, rfl⟩, rfl, hi1', hc1⟩
  have S1 := Lib.hid (S0.out.turn hi1' hc1)
  have hcell : ∀ j, j < 8 → ∃ x, (0 : Int) ≤ x ∧ x ≤ 5 ∧ w1.cell? ⟨w.heap.size + 1, 0 + j, none⟩ = some (.int .i64 x) := fun j hj => by
    rw [Nat.zero_add]
    match j, hj with
    | 0, _ => exact ⟨_, by decide, by decide, S1.out.cell (i := 0) rfl rfl⟩
    | 1, _ => exact ⟨_, by decide, by decide, S1.out.cell (i := 0) rfl rfl⟩
    | 2, _ => exact ⟨_, by decide, by decide, S1.out.cell (i := 0) rfl rfl⟩
    | 3, _ => exact ⟨_, by decide, by decide, S1.out.cell (i := 0) rfl rfl⟩
    | 4, _ => exact ⟨_, by decide, by decide, S1.out.cell (i := 0) rfl rfl⟩
    | 5, _ => exact ⟨_, by decide, by decide, S1.out.cell (i := 0) rfl rfl⟩
    | 6, _ => exact ⟨_, by decide, by decide, S1.out.cell (i := 0) rfl rfl⟩
    | 7, _ => exact ⟨_, by decide, by decide, S1.out.cell (i := 0) rfl rfl⟩
  replace hcell := Lib.hid hcell
  clear S0 hc1
  obtain ⟨k, hk, hkx⟩ : ∃ k : Nat, k ≤ 2 ∧ x.tdiv 11 = (k : Int) := ⟨(x / 11).toNat, by omega, by rw [Int.tdiv_eq_ediv_of_nonneg hx0]; omega⟩
  obtain ⟨m, hm, hm6, hm8⟩ : ∃ m : Nat, IntKind.i64.wrap (6 + (k : Int)) = (m : Int) ∧ 6 ≤ m ∧ m ≤ 8 := ⟨6 + k, by rw [IntWalk.i64_in _ (by omega)]; push_cast; rfl, by omega, by omega⟩
  have hq := Lib.hid (cur_among 0 5 (w.heap.size + 1) 0 m 8 (A + 2) g ca cl cc w1 hi1' (by omega) (by omega) (by omega) (fun j hj => hcell.out j (by omega)) (by omega))
  clear hi1' hcell
  go_wp2_with fail
  refine hq.out.mono ?_
  rintro e w2 ⟨_, ⟨z, hz0, hz1, rfl⟩, rfl, hi2, hc2⟩
  have S2 := Lib.hid ((S1.out.turn hi2 hc2).tail)
  clear S1 hq hi2 hc2 hm hkx
  obtain ⟨m, rfl⟩ := Int.eq_ofNat_of_zero_le hz0
  have S3 : Hid (CS w g ca cl cc (A + 4 + 6 * (5 - m)) w2 (LRow (some ⟨w.heap.size, 0, none⟩) 0 [] :: ([] : List Lst).reverse.map Lst.row)) := S2.out.mono (by omega)
  have hL0 : Hid (LstOk (5 - m) 3 []) := ⟨by simp, fun t ht => by simp at ht⟩
  clear S2
  go_wp2_with fail
  go_loopw [3, 4] (fun v3 v4 wr => ∃ (m : Nat) (B : Option Addr) (c : Nat) (ks : List Lst), m ≤ 5 ∧ v4 = .int .i64 m ∧ v3 = .slice B ks.length c ∧ Hid (LstOk (5 - m) 3 ks) ∧ Hid (CS w g ca cl cc (A + 4 + 6 * (5 - m)) wr (LRow B c ks :: ks.reverse.map Lst.row))) (fun _ v4 _ => (intOf v4).toNat)
  case atStart => exact ⟨m, _, 0, [], by omega, rfl, rfl, hL0, S3⟩
  case round =>
    clear S3 hL0 hz0 hz1
    obtain ⟨m, B, c, ks, hm5, rfl, rfl, hL, HS⟩ := hrel
    by_cases hlt : 0 < m
    · have hmw : IntKind.i64.wrap ((m : Int) - 1) = ((m - 1 : Nat) : Int) := by rw [IntWalk.i64_in _ (by omega)]; omega
      have S2 : Hid (CS w g ca cl cc (A + 4 + 6 * (5 - m) + 2 * (1 - 1)) (wr.alloc (.cells #[] 3)) (OwnL (some ⟨wr.heap.size, 0, none⟩) 0 [] :: LRow B c ks :: ks.reverse.map Lst.row)) := HS.out.own_made 3 1
      obtain ⟨A1, hA1⟩ : ∃ A1, A + 4 + 6 * (5 - m) = A1 := ⟨_, rfl⟩
      rw [hA1] at S2
      have hA1b : A1 ≤ 2000 := by omega
      replace hA1 := Lib.hid hA1
      have hkl : ks.length ≤ 5 := Nat.le_trans hL.out.1 (by omega)
      clear HS
      rename World => wo
      go_wp2_with fail
      go_loopw [5, 6] (fun v5 v6 wr => ∃ (j : Nat) (D : Option Addr) (d : Nat) (xs : List Int), (1 ≤ j ∧ j ≤ 4) ∧ v6 = .int .i64 j ∧ v5 = .slice D xs.length d ∧ xs.length ≤ j - 1 ∧ Hid (∀ x ∈ xs, I64 x) ∧ Hid (CS w g ca cl cc (A1 + 2 * (j - 1)) wr (OwnL D d xs :: LRow B c ks :: ks.reverse.map Lst.row))) (fun _ v6 _ => 4 - (intOf v6).toNat)
      case atStart => exact ⟨1, _, 0, [], ⟨by omega, by omega⟩, rfl, rfl, by simp, (fun x hx => by simp at hx), S2⟩
      case round =>
        clear S2
        obtain ⟨j, D, d, xs, ⟨hj1, hj4⟩, rfl, rfl, hxl, hx64, HS⟩ := hrel
        by_cases hlt2 : (j : Int) ≤ 3
        · go_wp2_with fail
          refine (cur_one 2 _ g ca cl cc _ HS.out.cur (by omega) (by omega)).mono ?_
          rintro e w3 ⟨_, ⟨q, rfl⟩, rfl, hi3, hc3⟩
          have S4 := Lib.hid ((HS.out.turn hi3 hc3).mono (A' := A1 + 2 * (j + 1 - 1)) (by omega))
          clear HS hi3 hc3
          cases q
          · go_wp2_with fail
            go_roundw
            case rel => exact ⟨j + 1, D, d, xs, ⟨by omega, by omega⟩, by go_num, rfl, by omega, hx64, S4⟩
            case measure => simp [intOf]; omega
          · have hx2 : Hid (∀ x ∈ xs ++ [(j : Int)], I64 x) := fun x hx => by
              rcases List.mem_append.1 hx with hx | hx
              · exact hx64.out x hx
              · obtain rfl := List.mem_singleton.1 hx; unfold I64; omega
            have S3 := S4.out.alloc_box #[.int .i64 (j : Int)] 3
            (try simp only [World.size_setCell] at S3)
            have kB := S3.cell (i := 0) rfl (o := 0) rfl
            replace S3 := Lib.hid S3
            clear S4
            go_wp2_with (at_builtin; refine wpList_append_src rfl _ _ rfl Try.underlying26 hi0 hy0 hy1 hy2 rfl (by decide) _ _ _ rfl (S3.out.own (i := 1) rfl) _ 1 1 [.int .i64 (j : Int)] rfl (Src.one kB) (by simp [Value.oneCell']) ?c3 ?c4 ?_)
            case c3 => unfold maxLen; omega
            case c4 => omega
            intro vY wY hownY hgY hatY
            have S4 := (S3.out.own_push (i := 1) rfl (bb _) hownY hgY (by simpa using hatY)).tail
            obtain ⟨aY, cY, rfl⟩ := own_slice hownY
            have S5 := Lib.hid (ownI_snocC (d := xs) (x := (j : Int)) S4)
            clear S3 S4 kB hownY hgY hatY
            have hlen : xs.length + 1 = (xs ++ [(j : Int)]).length := by simp
            rw [hlen]
            replace hlen := Lib.hid hlen
            go_wp2_with fail
            go_roundw
            case rel => exact ⟨j + 1, aY, cY, xs ++ [(j : Int)], ⟨by omega, by omega⟩, by go_num, rfl, by simp; omega, hx2, S5⟩
            case measure => simp [intOf]; omega
        · obtain rfl : j = 4 := by omega
          have S5 := HS.out.alloc_box #[.slice D xs.length d] 26
          have kB := S5.cell (i := 0) rfl (o := 0) rfl
          have hown := Lib.hid (S5.own (i := 2) rfl)
          replace S5 := Lib.hid S5
          have hLp : Hid (LstOk (5 - (m - 1)) 3 (ks ++ [(⟨D, d, xs⟩ : Lst)])) := LstOk.more (LstOk.push hL.out (t := ⟨D, d, xs⟩) (show xs.length ≤ 3 by omega) hx64.out) (by omega) (Nat.le_refl _)
          clear HS hL hx64
          go_wp2_with (at_builtin; refine wpList_append_src rfl _ _ rfl Try.underlying24 hi1 hrz0 hrz1 hrz2 rfl (by decide) _ ks.length _ rfl hown.out _ 1 1 [.slice D xs.length d] rfl (Src.one kB) (by simp [Value.oneCell']) ?c3 ?c4 ?_)
          case c3 => unfold maxLen; omega
          case c4 => omega
          intro vY wY hownY hgY hatY
          have S6 := ((S5.out.own_push (i := 2) rfl (bb _) hownY hgY (by simpa using hatY)).tail).swap
          obtain ⟨aY, cY, rfl⟩ := own_slice hownY
          have hl1 : ks.length + 1 = (ks ++ [(⟨D, d, xs⟩ : Lst)]).length := by simp
          have S7 : Hid (CS w g ca cl cc (A + 4 + 6 * (5 - (m - 1))) wY (LRow aY cY (ks ++ [(⟨D, d, xs⟩ : Lst)]) :: (ks ++ [(⟨D, d, xs⟩ : Lst)]).reverse.map Lst.row)) := by
            have S7 := S6.mono (A' := A + 4 + 6 * (5 - (m - 1))) (by have := hA1.out; omega)
            unfold LRow
            rw [← hl1, List.map_append, List.reverse_append]
            exact S7
          clear S5 S6 kB hown hownY hgY hatY
          rw [hl1]
          generalize ks ++ [(⟨D, d, xs⟩ : Lst)] = ks2 at *
          clear hl1
          go_wp2_with fail
          go_roundw
          case rel => exact ⟨m - 1, aY, cY, ks2, by omega, rfl, rfl, hLp, S7⟩
          case measure => simp [intOf]; omega
    · obtain rfl : m = 0 := by omega
      have hks : ks.length ≤ 5 := hL.out.1
      have S2 := Lib.hid (HS.out.mono (A' := A + 40) (by omega))
      have hL2 := Lib.hid hL.out.2
      clear HS hL hlt hm5
      by_cases hn : 0 < ks.length
      · go_wp2_with fail
        refine (cur_pick_at (lo := 0) (hi := (ks.length : Int) - 1) S2.out.cur (by omega) (by omega) (by omega) (by omega) (by omega)).mono ?_
        rintro e w3 ⟨_, ⟨y, hy0', hy1', rfl⟩, rfl, hi3, hc3⟩
        have S3 := Lib.hid (S2.out.turn hi3 hc3)
        obtain ⟨k, rfl⟩ := Int.eq_ofNat_of_zero_le hy0'
        have hk : k < ks.length := by omega
        clear S2 hi3 hc3 hy0' hy1'
        go_wp2_with fail
        refine (cur_pick_at (lo := 0) (hi := 19) S3.out.cur (by omega) (by omega) (by omega) (by omega) (by omega)).mono ?_
        rintro e w4 ⟨_, ⟨y, _, _, rfl⟩, rfl, hi4, hc4⟩
        have S4 := Lib.hid (S3.out.turn hi4 hc4)
        clear S3 hi4 hc4
        by_cases hy0 : y = 0
        · obtain rfl := hy0
          have Sb := S4.out.bring (i := ks.length - 1 - k + 1) (by rw [List.getElem?_cons_succ]; exact rows_back hk)
          rw [List.eraseIdx_cons_succ] at Sb
          have hrs := Lib.hid (fun u P => rows_left (u := u) (P := P) hk)
          have ht2 := hL2.out _ (List.getElem_mem hk)
          have hu : (ks.map Lst.hd)[k]? = some ks[k].hd := by rw [List.getElem?_map, List.getElem?_eq_getElem hk]; rfl
          generalize (ks.reverse.map Lst.row).eraseIdx (ks.length - 1 - k) = rs at *
          generalize ks[k] = t at *
          obtain ⟨D, d, xs⟩ := t
          replace hu := Lib.hid hu
          obtain ⟨gx, cap, cur, eB, -⟩ := own_block (Sb.own (i := 1) rfl) hn
          simp only [Value.slice.injEq] at eB
          obtain ⟨rfl, -, -⟩ := eB
          have hxl : xs.length ≤ 3 := ht2.1
          have hx64 := Lib.hid ht2.2
          have S5 : Hid (CS w g ca cl cc (A + 40 + 2 + 2) w4 (OwnL D d xs :: Own 26 1 (.slice (some ⟨gx, 0, none⟩) ks.length c) ks.length (ks.map Lst.hd) :: rs)) := Sb
          replace hu : Hid ((ks.map Lst.hd)[k]? = some (.slice D xs.length d)) := hu
          clear Sb S4 ht2 cur
          go_wp2_with fail
          have hc0 := (own_cellH (S5.out.own (i := 1) rfl) hu.out).1
          refine wp_region_tail_lit (S := (fun w' => w'.cell? ⟨gx, k, none⟩ = some (.slice D xs.length d))) 11 [false, false, false, false, false, false, false, false, false, false, false, false, false] (by kernel_rfl) (by kernel_rfl) (by kernel_rfl) ?_ ?_
          · exact hc0
          intro hSc
          (refine walkT_take (i := 0) (v := ?_) rfl (by kernel_rfl) (by decide) (by kernel_rfl) (by kernel_rfl) (fun _ _ _ h => h) (Or.inl ⟨by rfl, ?_⟩) (by assumption) ?_; rotate_left; (focus (intro w hSw; (try dsimp only at hSw); go_simp; (try with_reducible rfl); done)); (try simp only [put_rules]))
          (refine walkT_take (i := 1) (v := ?_) rfl (by kernel_rfl) (by decide) (by kernel_rfl) (by kernel_rfl) (fun _ _ _ h => h) (Or.inl ⟨by rfl, ?_⟩) (by assumption) ?_; rotate_left; (focus (intro w hSw; (try dsimp only at hSw); go_simp; (try with_reducible rfl); done)); (try simp only [put_rules]))
          (refine walkT_take (i := 2) (v := ?_) rfl (by kernel_rfl) (by decide) (by kernel_rfl) (by kernel_rfl) (fun _ _ _ h => h) (Or.inl ⟨by rfl, ?_⟩) (by assumption) ?_; rotate_left; (focus (intro w hSw; (try dsimp only at hSw); go_simp; (try with_reducible rfl); done)); (try simp only [put_rules]))
          (refine walkT_take (i := 3) (v := ?_) rfl (by kernel_rfl) (by decide) (by kernel_rfl) (by kernel_rfl) (fun _ _ _ h => h) (Or.inl ⟨by rfl, ?_⟩) (by assumption) ?_; rotate_left; (focus (intro w hSw; (try dsimp only at hSw); go_simp; (try with_reducible rfl); done)); (try simp only [put_rules]))
          (refine walkT_take (i := 4) (v := ?_) rfl (by kernel_rfl) (by decide) (by kernel_rfl) (by kernel_rfl) (fun _ _ _ h => h) (Or.inl ⟨by rfl, ?_⟩) (by assumption) ?_; rotate_left; (focus (intro w hSw; (try dsimp only at hSw); go_simp; (try with_reducible rfl); done)); (try simp only [put_rules]))
          (refine walkT_take (i := 5) (v := ?_) rfl (by kernel_rfl) (by decide) (by kernel_rfl) (by kernel_rfl) (fun _ _ _ h => h) (Or.inl ⟨by rfl, ?_⟩) (by assumption) ?_; rotate_left; (focus (intro w hSw; (try dsimp only at hSw); go_simp; (try with_reducible rfl); done)); (try simp only [put_rules]))
          (refine walkT_take (i := 6) (v := ?_) rfl (by kernel_rfl) (by decide) (by kernel_rfl) (by kernel_rfl) (fun _ _ _ h => h) (Or.inl ⟨by rfl, ?_⟩) (by assumption) ?_; rotate_left; (focus (intro w hSw; (try dsimp only at hSw); go_simp; (try with_reducible rfl); done)); (try simp only [put_rules]))
          (refine walkT_ready (rs := [7]) (by kernel_rfl) (by simp) (by decide) ?_; refine AllT.cons rfl (fun K hK => ?_) AllT.nil)
          go_simp
          have S6 := Lib.hid (S5.out.drew.alloc_box #[.int .i64 0, .int .i64 4, .int .i64 1, .int .i64 3] 3)
          refine hK.out _ _ (own_cellH (S6.out.own (i := 2) rfl) hu.out).1 (fun hS2 => ?_)
          clear hK S5 hSc hc0
          (try simp only [put_rules])
          (refine walkT_ready (rs := [8]) (by kernel_rfl) (by simp) (by decide) ?_; refine AllT.cons rfl (fun K hK => ?_) AllT.nil)
          go_simp
          go_at_call 55
          have hcall := Lib.hid (cur_among 0 4 w4.heap.size 0 4 4 _ g ca cl cc _ S6.out.cur (by omega) (by omega) (by omega) (fun j hj => by
            rw [Nat.zero_add]
            match j, hj with
            | 0, _ => exact ⟨_, by decide, by decide, S6.out.cell (i := 0) rfl rfl⟩
            | 1, _ => exact ⟨_, by decide, by decide, S6.out.cell (i := 0) rfl rfl⟩
            | 2, _ => exact ⟨_, by decide, by decide, S6.out.cell (i := 0) rfl rfl⟩
            | 3, _ => exact ⟨_, by decide, by decide, S6.out.cell (i := 0) rfl rfl⟩) (by have := S6.out.glt; have := (S6.out.box (i := 0) rfl).1; have e : w4.drew.heap.size = w4.heap.size := rfl; omega))
          refine hcall.out.mono ?_
          rintro e w5 ⟨_, ⟨z, hz0, hz1, rfl⟩, rfl, hi5, hc5⟩
          have S7 := Lib.hid ((S6.out.turn hi5 hc5).tail)
          clear hcall S6 hi5 hc5 hS2
          go_wp2_with fail
          refine hK.out _ _ (own_cellH (S7.out.own (i := 1) rfl) hu.out).1 (fun hS2 => ?_)
          clear hK
          (try simp only [put_rules])
          (refine walkT_ready (rs := [9]) (by kernel_rfl) (by simp) (by decide) ?_; refine AllT.cons rfl (fun K hK => ?_) AllT.nil)
          go_simp
          have S8 := Lib.hid (S7.out.alloc_box #[.int .i64 z] 3)
          refine hK.out _ _ (own_cellH (S8.out.own (i := 2) rfl) hu.out).1 (fun hS3 => ?_)
          clear hK S7 hS2
          (try simp only [put_rules])
          (refine walkT_ready (rs := [10]) (by kernel_rfl) (by simp) (by decide) ?_; refine AllT.cons rfl (fun K hK => ?_) AllT.nil)
          have hown := S8.out.own (i := 1) rfl
          have k9 := S8.out.cell (i := 0) rfl (o := 0) rfl
          (refine step_append_src rfl _ _ rfl Try.underlying26 hi0 hy0 hy1 hy2 rfl (by decide) _ _ _ rfl hown _ 1 1 [.int .i64 z] rfl (Src.one k9) (by simp [Value.oneCell']) (by unfold maxLen; omega) (by omega) ?_; intro v3 w6 hown3 hg3 hat3)
          have S9 := (S8.out.own_push (i := 1) rfl (bb _) hown3 hg3 hat3).tail
          obtain ⟨a3, c3, rfl⟩ := own_slice hown3
          simp only [List.set_cons_zero, List.set_cons_succ] at S9
          have S10 := Lib.hid (ownI_snocC (d := xs) (x := z) S9)
          refine hK.out _ _ (own_cellH (S10.out.own (i := 1) rfl) hu.out).1 (fun hS4 => ?_)
          clear hK S8 S9 hown3 hg3 hat3 hown k9 hS3
          (try simp only [put_rules])
          have f0 := (own_cellH (S10.out.own (i := 1) rfl) hu.out).2
          have c0 := (own_cellH (S10.out.own (i := 1) rfl) hu.out).1
          (refine walkT_done (by kernel_rfl) ?_)
          simp only [List.drop_succ_cons, List.drop_zero]
          obtain ⟨n1, hn1⟩ : ∃ n1, xs.length + 1 = n1 := ⟨_, rfl⟩
          rw [hn1]
          replace hn1 := Lib.hid hn1
          have hz64 : Hid (∀ x ∈ xs ++ [z], I64 x) := fun x hx => by
            rcases List.mem_append.1 hx with hx | hx
            · exact hx64.out x hx
            · obtain rfl := List.mem_singleton.1 hx; unfold I64; omega
          have SF := (S10.out.own_put (i := 1) rfl (.slice a3 n1 c3) (o := k) (by omega)).mono (A' := A + 50) (by omega)
          simp only [List.set_cons_zero, List.set_cons_succ] at SF
          have hl2 : n1 = (xs ++ [z]).length := by rw [← hn1.out]; simp
          have hok : LstOk 5 4 (ks.set k ⟨a3, c3, xs ++ [z]⟩) := LstOk.put ⟨hks, hL2.out⟩ (by omega) (by rw [← hl2, ← hn1.out]; omega) hz64.out
          have hC := lst_cls (ks := ks.set k ⟨a3, c3, xs ++ [z]⟩) SF (i := 1) (by rw [List.map_set, hl2]; rfl) (by simp) (hrs.out _ _) (fun t ht => (hok.2 t ht).2)
          have hfin := Lib.hid (And.intro hC (And.intro (show ((ks.set k ⟨a3, c3, xs ++ [z]⟩).map Lst.xs).length ≤ 5 ∧ ∀ l ∈ (ks.set k ⟨a3, c3, xs ++ [z]⟩).map Lst.xs, l.length ≤ 4 from ⟨by simpa using hks, fun l hl => by
            obtain ⟨t, ht, rfl⟩ := List.mem_map.1 hl
            exact (hok.2 t ht).1⟩) (And.intro SF.cur SF.chg)))
          have hlen : ks.length = ((ks.set k (⟨a3, c3, xs ++ [z]⟩ : Lst)).map Lst.xs).length := by simp
          replace hlen := Lib.hid hlen
          clear SF S10 hC hok hrs hz64 hl2
          go_wp2_with fail
          go_ret
          exact ⟨some ⟨gx, 0, none⟩, c, _, by rw [← hlen.out]; rfl, hfin.out.1, hfin.out.2.1, hfin.out.2.2.1, hfin.out.2.2.2⟩
        · by_cases hy1 : y = 1
          · obtain rfl := hy1
            obtain ⟨gx, cap, cur, eB, -⟩ := own_block (S4.out.own (i := 0) rfl) hn
            simp only [Value.slice.injEq] at eB
            obtain ⟨rfl, -, -⟩ := eB
            have S5 := S4.out.own_two 2 1
            have hu : (ks.map Lst.hd)[k]? = some ks[k].hd := by rw [List.getElem?_map, List.getElem?_eq_getElem hk]; rfl
            have c0 := own_cellH (S5.own (i := 1) rfl) hu
            have f0 := c0.2
            replace c0 := c0.1
            unfold Lst.hd at c0
            have SF := (S5.own_put (i := 1) rfl (.slice (some ⟨w4.heap.size, 0, none⟩) 2 2) (o := k) (by omega)).mono (A' := A + 50) (by omega)
            simp only [List.set_cons_zero, List.set_cons_succ] at SF
            have hok : LstOk 5 4 (ks.set k ⟨some ⟨w4.heap.size, 0, none⟩, 2, [2, 1]⟩) := LstOk.put ⟨hks, hL2.out⟩ (by omega) (by simp) (by simp [I64])
            have hC := lst_cls (ks := ks.set k ⟨some ⟨w4.heap.size, 0, none⟩, 2, [2, 1]⟩) SF (i := 1) (by rw [List.map_set]; rfl) (by simp) (fun t ht => by
              rcases List.mem_or_eq_of_mem_set ht with ht | rfl
              · exact List.mem_cons_of_mem _ (List.mem_cons_of_mem _ (List.mem_map.2 ⟨t, List.mem_reverse.2 ht, rfl⟩))
              · exact List.mem_cons_self ..) (fun t ht => (hok.2 t ht).2)
            have hfin := Lib.hid (And.intro hC (And.intro (show ((ks.set k ⟨some ⟨w4.heap.size, 0, none⟩, 2, [2, 1]⟩).map Lst.xs).length ≤ 5 ∧ ∀ l ∈ (ks.set k ⟨some ⟨w4.heap.size, 0, none⟩, 2, [2, 1]⟩).map Lst.xs, l.length ≤ 4 from ⟨by simpa using hks, fun l hl => by
              obtain ⟨t, ht, rfl⟩ := List.mem_map.1 hl
              exact (hok.2 t ht).1⟩) (And.intro SF.cur SF.chg)))
            have hlen : ks.length = ((ks.set k (⟨some ⟨w4.heap.size, 0, none⟩, 2, [2, 1]⟩ : Lst)).map Lst.xs).length := by simp
            replace hlen := Lib.hid hlen
            clear SF S5 S4 hC hok hu
            go_wp2_with fail
            go_ret
            exact ⟨some ⟨gx, 0, none⟩, c, _, by rw [← hlen.out]; rfl, hfin.out.1, hfin.out.2.1, hfin.out.2.2.1, hfin.out.2.2.2⟩
          · have SF := S4.out.mono (A' := A + 50) (by omega)
            have hC := lst_cls SF (i := 0) rfl rfl (fun t ht => List.mem_cons_of_mem _ (List.mem_map.2 ⟨t, List.mem_reverse.2 ht, rfl⟩)) (fun t ht => (hL2.out t ht).2)
            have hfin := Lib.hid (And.intro hC (And.intro (show (ks.map Lst.xs).length ≤ 5 ∧ ∀ l ∈ ks.map Lst.xs, l.length ≤ 4 from ⟨by simpa using hks, fun l hl => by
              obtain ⟨t, ht, rfl⟩ := List.mem_map.1 hl
              have := (hL2.out t ht).1; omega⟩) (And.intro SF.cur SF.chg)))
            have hlen : Hid (ks.length = (ks.map Lst.xs).length) := (List.length_map _).symm
            have hz1 : (y == 0) = false := by simp [hy0]
            have hz2 : (y == 1) = false := by simp [hy1]
            clear SF S4 hC
            go_wp2_with fail
            go_ret
            exact ⟨B, c, _, by rw [← hlen.out]; rfl, hfin.out.1, hfin.out.2.1, hfin.out.2.2.1, hfin.out.2.2.2⟩
      · obtain rfl : ks = [] := List.length_eq_zero_iff.1 (by omega)
        have SF := S2.out.mono (A' := A + 50) (by omega)
        have hC := lst_cls (ks := []) SF (i := 0) rfl rfl (fun t ht => by simp at ht) (fun t ht => by simp at ht)
        have hfin := Lib.hid (And.intro hC (And.intro SF.cur SF.chg))
        clear SF S2 hC
        go_wp2_with fail
        go_ret
        exact ⟨B, c, [], rfl, hfin.out.1, ⟨by simp, by simp⟩, hfin.out.2.1, hfin.out.2.2⟩

/-- Some lists of numbers, in new memory. -/
def ChoiceP (w : World) (e : Ending) (w' : World) : Prop := ∃ (B : Option Addr) (c : Nat) (L : List (List Int)), e = .returned (.slice B L.length c) ∧ ClsAt w' B L ∧ (L.length ≤ 5 ∧ ∀ l ∈ L, l.length ≤ 4) ∧ Below w.heap.size w w'
set_option maxRecDepth 100000 in
theorem drawIsChoice_any (ca : Option Addr) (cl cc : Nat) (w : World) (hc : CodeOk w ca cl) (hs : cl ≤ 65536) :
    Calls Try.prog 18 #[.slice ca cl cc] w (ChoiceP w) := by
  have S0 := Lib.hid (seCur_new (cc := cc) hc hs)
  have hB := Lib.hid (bal (bb w) (.cells #[.slice ca cl cc, .int .i64 0, .int .u64 0] 60))
  clear hc
  go_enter Try.func18, Try.ntmps18
  go_wp2_with fail
  refine (cur_choice 0 _ ca cl cc _ S0.out (by omega)).mono ?_
  rintro e w1 ⟨B, c, L, rfl, h1, h2, -, h4⟩
  have hfin := Lib.hid (And.intro h1 (And.intro h2 (hB.out.trans (h4.below hB.out.size (by simp)))))
  clear h1 h2 h4 S0 hB
  go_wp2_with fail
  go_ret
  exact ⟨B, c, L, rfl, hfin.out⟩
set_option maxRecDepth 100000 in
theorem drawHall_any (ca : Option Addr) (cl cc : Nat) (w : World) (hc : CodeOk w ca cl) (hs : cl ≤ 65536) :
    Calls Try.prog 5 #[.slice ca cl cc] w (ChoiceP w) := by
  have h0 := Lib.hid (drawIsChoice_any ca cl cc w hc hs)
  clear hc
  go_enter Try.func5, Try.ntmps5
  go_wp2_with fail
  refine h0.out.mono ?_
  rintro e w1 ⟨B, c, L, rfl, hfin⟩
  replace hfin := Lib.hid hfin
  clear h0
  go_wp2_with fail
  go_ret
  exact ⟨B, c, L, rfl, hfin.out⟩
end Go.Proofs.Yteabiokhbaekpaa

/- Contract: whether pigeons have fewer holes together than they are, in the program. -/
namespace Go.Proofs.Yteabiokhbaekpaa
open Go.RowKit

/-- The holes of some pigeons, in their order. -/
def hallA (L : List (List Int)) (sm : List Int) : List Int := sm.flatMap fun i => L.getD (i.toNat - 1) []
theorem hallA_succ {L : List (List Int)} {sm : List Int} {k : Nat} (hk : k < sm.length) : hallA L (sm.take (k + 1)) = hallA L (sm.take k) ++ L.getD (sm[k].toNat - 1) [] := by
  unfold hallA
  rw [List.take_succ_eq_append_getElem hk, List.flatMap_append]; simp
/-- The number of different holes; fewer holes than pigeons. -/
def holesB (L : List (List Int)) (sm : List Int) : List Int := varF 3 (usedB [hallA L sm])
def hallB (L : List (List Int)) (sm : List Int) : Bool := decide ((holesB L sm).length < sm.length)
theorem hallA_small {L : List (List Int)} (hL : choiceB L = true) : ∀ {sm : List Int}, (hallA L sm).length ≤ 3 * sm.length ∧ ∀ x ∈ hallA L sm, 1 ≤ x ∧ x ≤ 3
  | [] => ⟨by simp [hallA], fun x hx => by simp [hallA] at hx⟩
  | i :: sm => by
    obtain ⟨h1, h2⟩ := hallA_small hL (sm := sm)
    have h3 := (choice_parts hL).2
    have h4 : (L.getD (i.toNat - 1) []).length ≤ 3 ∧ ∀ x ∈ L.getD (i.toNat - 1) [], 1 ≤ x ∧ x ≤ 3 := by
      rw [List.getD_eq_getElem?_getD]
      cases h : L[i.toNat - 1]? with
      | none => exact ⟨by simp, fun x hx => by simp at hx⟩
      | some l =>
        have hl := h3 l (List.mem_of_getElem? h)
        refine ⟨by simpa using lst_len hl, fun x hx => ?_⟩
        obtain ⟨j, hj, rfl⟩ := List.getElem_of_mem (show x ∈ l by simpa using hx)
        exact inB_true.1 (lst_facts hl j hj).1
    have e : hallA L (i :: sm) = L.getD (i.toNat - 1) [] ++ hallA L sm := by unfold hallA; rw [List.flatMap_cons]
    rw [e]
    refine ⟨by rw [List.length_append, List.length_cons]; omega, fun x hx => ?_⟩
    rcases List.mem_append.1 hx with hx | hx
    · exact h4.2 x hx
    · exact h2 x hx

set_option maxRecDepth 100000 in
set_option maxHeartbeats 4000000 in
theorem isHall_any (A : Option Addr) (c : Nat) (L : List (List Int)) (B : Option Addr) (d : Nat) (sm : List Int) (w : World) (hx : ClsAt w A L) (hy : IntsAt w B sm) (hL : choiceB L = true) (hs : sm.length ≤ 20) (hr : ∀ i ∈ sm, 1 ≤ i ∧ i ≤ L.length) :
    Calls Try.prog 20 #[.slice A L.length c, .slice B sm.length d] w fun e w' => e = .returned (.bool (hallB L sm)) ∧ Below w.heap.size w w' := by
  obtain ⟨i0, hi0, hy0, hy1, hy2⟩ := info_parts infoInt
  have hX := Lib.hid hx
  have hY := Lib.hid hy
  have hCh := Lib.hid hL
  have h4 := (choice_parts hL).1
  clear hx hy hL
  have S0 := Lib.hid ((Sp.start w).own_nil 3 1)
  go_enter Try.func20, Try.ntmps20
  go_wp2_with fail
  go_loopw [5, 10] (fun v5 v10 wr => ∃ (k : Nat) (D : Option Addr) (dc : Nat) (ys : List Int), k ≤ sm.length ∧ v10 = .int .i64 k ∧ v5 = .slice D ys.length dc ∧ Hid (ys = hallA L (sm.take k)) ∧ Hid (Sp w wr [Own 3 1 (.slice D ys.length dc) ys.length (ys.map (.int .i64))])) (fun _ v10 _ => sm.length - (intOf v10).toNat)
  case atStart => exact ⟨0, none, 0, [], Nat.zero_le _, rfl, rfl, rfl, S0⟩
  case round =>
    clear S0
    obtain ⟨k, D, dc, ys, hk, rfl, rfl, hys, HS⟩ := hrel
    by_cases hlt : k < sm.length
    · obtain ⟨b, off, hB, m0⟩ := (hY.out.grow HS.out.below).at_ k hlt
      subst hB
      have hri := hr _ (List.getElem_mem hlt)
      have hsuc := hallA_succ (L := L) hlt
      have hyl : ys.length ≤ 3 * k := by
        have := (hallA_small hCh.out (sm := sm.take k)).1
        rw [← hys.out, List.length_take] at this
        omega
      generalize sm[k] = i at *
      obtain ⟨t, rfl⟩ : ∃ t : Nat, i = (t : Int) + 1 := ⟨(i - 1).toNat, by omega⟩
      have ht : t < L.length := by omega
      have e1 : ((t : Int) + 1).toNat - 1 = t := by omega
      rw [e1, List.getD_eq_getElem?_getD, List.getElem?_eq_getElem ht, Option.getD_some] at hsuc
      obtain ⟨b2, o2, E, ec, hA, m1, hI⟩ := (hX.out.grow HS.out.below).at_ t ht
      subst hA
      have hll := lst_len ((choice_parts hCh.out).2 _ (List.getElem_mem ht))
      have hsub : IntKind.i64.wrap ((t : Int) + 1 - 1) = (t : Int) := by rw [IntWalk.i64_in _ (by omega)]; omega
      generalize L[t] = l at *
      have hsrc := ints_src hI rfl
      replace hsuc := Lib.hid hsuc
      have hown := Lib.hid (HS.out.own (i := 0) rfl)
      go_wp2_with (at_builtin; refine wpList_append_src rfl _ _ rfl Try.underlying26 hi0 hy0 hy1 hy2 rfl (by decide) _ _ _ rfl hown.out _ l.length ec (l.map (.int .i64)) rfl hsrc (ints_one l) ?c3 ?c4 ?_)
      case c3 => unfold maxLen; omega
      case c4 => omega
      intro vY wY hownY hgY hatY
      have S4 := HS.out.own_push (i := 0) rfl (bb _) hownY hgY (by simpa using hatY)
      obtain ⟨aY, cY, rfl⟩ := own_slice hownY
      have S5 : Sp w wY [Own 3 1 (.slice aY (ys ++ l).length cY) (ys ++ l).length ((ys ++ l).map (.int .i64))] := by
        rw [List.length_append, List.map_append]; exact S4
      have hlen : ys.length + l.length = (ys ++ l).length := by simp
      rw [hlen]
      have hys2 : Hid (ys ++ l = hallA L (sm.take (k + 1))) := by unfold Hid; rw [hsuc.out, hys.out]
      replace S5 := Lib.hid S5
      clear S4 hownY hgY hatY hlen hown hsrc HS hys
      generalize ys ++ l = zs at *
      go_wp2_with fail
      go_roundw
      case rel => exact ⟨k + 1, aY, cY, zs, by omega, by go_num, rfl, hys2, S5⟩
      case measure => simp [intOf]; omega
    · obtain rfl : k = sm.length := by omega
      have hys2 : ys = hallA L sm := by have := hys.out; rwa [List.take_length] at this
      have hsm := hallA_small hCh.out (sm := sm)
      rw [← hys2] at hsm
      have hHB : Hid (hallB L sm = decide ((varF 3 (usedB [ys])).length < sm.length)) := by unfold Hid hallB holesB; rw [hys2]
      have hlit : ∀ x ∈ ys, LitS x := fun x hx => by have := hsm.2 x hx; unfold LitS; omega
      have S6 := HS.out.alloc_box #[.slice D ys.length dc] 26
      have k0 := S6.cell (i := 0) rfl (o := 0) rfl
      have hL6 := S6.ints (i := 1) rfl (fun x hx => (hlit x hx).i64)
      have hvo := varsOf_any [ys] (fun c hc => by rw [List.mem_singleton] at hc; subst hc; exact ⟨hlit, by omega⟩) 3 (fun c hc l hl => by
        rw [List.mem_singleton] at hc; subst hc
        have := hsm.2 l hl
        exact ⟨by omega, by omega⟩) (by simp) (Option.some ⟨wr.heap.size, 0, none⟩) 1 _ ⟨fun j hj => by
        have e : j = 0 := by simpa using hj
        subst e
        exact ⟨_, 0, D, dc, rfl, k0, hL6⟩⟩
      generalize varF 3 (usedB [ys]) = VS at *
      replace hvo := Lib.hid hvo
      have S7 := Lib.hid S6
      clear S6 k0 hL6 hys2 hys HS hsm hlit
      go_wp2_with fail
      refine hvo.out.mono ?_
      rintro e w7 ⟨B7, c7, rfl, T⟩
      have hZ := Lib.hid (S7.out.seq T).below
      clear hvo S7 T
      go_wp2_with fail
      go_ret
      exact ⟨ret_bool (by rw [hHB.out]), hZ.out⟩
end Go.Proofs.Yteabiokhbaekpaa
