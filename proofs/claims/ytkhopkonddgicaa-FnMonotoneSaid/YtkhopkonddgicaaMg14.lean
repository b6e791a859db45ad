/- Lemmas and contracts for a law, put together out of several texts: GvF GuN RsB SdB GvH. -/
import Derived.Test.YtkhopkonddgicaaMg13
import Derived.Deep.RegionWith
import Derived.Deep.DeepCutAuto
import Derived.Test.YtkhopkonddgicaaMg6
import Derived.Test.YtkhopkonddgicaaMg9
import Derived.Test.YtkhopkonddgicaaMg3
import Derived.Lib.SlicesCompact
import Derived.Lib.RowBridge
import Derived.Test.YtkhopkonddgicaaMg10
/- Contract: two circuits joined, in the reference. Printed by gen_sjoin.py. -/
namespace Go.Proofs.Ytkhopkonddgicaa
open Go.RowKit

/-- The numbers that the gates of the second circuit get. -/
def toL (n q : Nat) : List Value := (List.range q).map fun j => .int .i64 ((j + n : Nat) : Int)
theorem toL_zero (n : Nat) : toL n 0 = [] := rfl
theorem toL_next (n q : Nat) : toL n (q + 1) = toL n q ++ [.int .i64 ((q + n : Nat) : Int)] := by simp [toL, List.range_succ]
theorem toL_get {n q k : Nat} (h : k < q) : (toL n q)[k]? = some (.int .i64 ((k + n : Nat) : Int)) := by simp [toL, h]
theorem gt_ones {w : World} {A : Option Addr} {gs : List Gt} (_ : GtAt w A gs) : ∀ u ∈ gs.flatMap gtEnc, u.oneCell' = true := by
  intro u hu
  obtain ⟨g, -, hg⟩ := List.mem_flatMap.1 hu
  simp only [gtEnc, List.mem_cons, List.not_mem_nil, or_false] at hg
  rcases hg with rfl | rfl | rfl <;> rfl

set_option maxRecDepth 100000 in
set_option maxHeartbeats 16000000 in
theorem specJoin_any (vars kind : Int) (A A' : Option Addr) (c c' : Nat) (xs ys : List Gt) (w : World) (hx : GtAt w A xs) (hy : GtAt w A' ys) (hl : xs.length ≤ 1000) (hl2 : ys.length ≤ 1000) :
    Calls Try.prog 37 #[.int .i64 vars, .int .i64 kind, .slice A xs.length c, .slice A' ys.length c'] w (GOut w (joinOk vars kind xs ys) (joinG kind xs ys)) := by
  obtain ⟨i0, hi0, hz0, hz1, hz2⟩ := info_parts infoGt
  obtain ⟨i1, hj0, hy0, hy1, hy2⟩ := info_parts infoInt
  have hc := l6Good_any vars A c xs w hx (by omega)
  have hd := fun W (h : Below w.heap.size w W) => l6Good_any vars A' c' ys W (hy.grow h) (by omega)
  unfold joinOk
  have hX := Lib.hid hx
  have hY := Lib.hid hy
  have h1c := Lib.hid (gt_ones hx)
  clear hx hy
  cases hq : circB vars xs
  · rw [hq] at hc
    rw [Bool.false_and]
    replace hc := Lib.hid hc
    clear hq hd
    go_enter Try.func37, Try.ntmps37
    go_wp2_with fail
    refine hc.out.mono ?_
    rintro e w1 ⟨rfl, hb1⟩
    have S1 := Lib.hid (Sp.of_below hb1)
    clear hb1 hc
    go_wp2_with fail
    go_ret2
    exact ⟨_, rfl, (S1.out.own_made 41 3)⟩
  · rw [hq] at hc
    rw [Bool.true_and]
    obtain ⟨-, hv, hp, -, hok⟩ := circ_vars hq
    replace hc := Lib.hid hc
    clear hq hok
    cases hr : circB vars ys
    · rw [hr] at hd
      rw [Bool.false_and]
      replace hd := Lib.hid hd
      clear hr
      go_enter Try.func37, Try.ntmps37
      go_wp2_with fail
      refine hc.out.mono ?_
      rintro e w1 ⟨rfl, hb1⟩
      have S1 := Lib.hid (Sp.of_below hb1)
      clear hb1 hc
      have hd2 := Lib.hid (hd.out _ S1.out.below)
      go_wp2_with fail
      refine hd2.out.mono ?_
      rintro e w2 ⟨rfl, hb2⟩
      have S2 := Lib.hid (S1.out.grow hb2)
      clear hb2 hd hd2 S1
      go_wp2_with fail
      go_ret2
      exact ⟨_, rfl, (S2.out.own_made 41 3)⟩
    · rw [hr] at hd
      rw [Bool.true_and]
      obtain ⟨-, -, hp2, -, hok2⟩ := circ_vars hr
      replace hd := Lib.hid hd
      replace hok2 := Lib.hid hok2
      clear hr
      have hw1 : IntKind.i64.wrap ((xs.length : Int) + ys.length) = ((xs.length + ys.length : Nat) : Int) := by rw [show (xs.length : Int) + ys.length = ((xs.length + ys.length : Nat) : Int) by omega]; exact IntWalk.i64_in _ (by omega)
      by_cases hkk : kind = 5 ∨ kind = 6
      · by_cases hlen : xs.length + ys.length < 200
        · have hjj : ((decide (kind = 5) || decide (kind = 6)) && decide (xs.length + ys.length < 200)) = true := by rcases hkk with h | h <;> simp [h, hlen]
          rw [hjj]
          clear hjj
          have hgt : ¬ (200 : Int) ≤ ((xs.length + ys.length : Nat) : Int) := by omega
          have hJA := joinT_all kind xs ys
          rw [hJA]
          clear hJA
          have hsr := Lib.hid (fun W (h : Below w.heap.size w W) => gt_src2 (hX.out.grow h))
          rcases hkk with rfl | rfl
          · have ekk : ((5 : Int) == 5) = true := rfl
            go_enter Try.func37, Try.ntmps37
            go_wp2_with fail
            refine hc.out.mono ?_
            rintro e w1 ⟨rfl, hb1⟩
            have S1 := Lib.hid (Sp.of_below hb1)
            clear hb1 hc
            have hd2 := Lib.hid (hd.out _ S1.out.below)
            go_wp2_with fail
            refine hd2.out.mono ?_
            rintro e w2 ⟨rfl, hb2⟩
            have S2 := Lib.hid (S1.out.grow hb2)
            clear hb2 hd hd2 S1
            have T0 := Lib.hid (S2.out.own_made 41 3)
            have hs2 := Lib.hid (hsr.out _ T0.out.below)
            clear S2 hsr
            go_wp2_with (at_builtin; refine wpList_append_src rfl _ _ rfl Try.underlying28 hi0 hz0 hz1 hz2 rfl (by decide) _ 0 _ rfl (T0.out.own (i := 0) rfl) A xs.length c (xs.flatMap gtEnc) rfl hs2.out h1c.out ?c3 ?c4 ?_)
            case c3 => unfold maxLen; omega
            case c4 => omega
            intro vY wY hownY hgY hatY
            have T5 := T0.out.own_push (i := 0) rfl (bb _) hownY hgY (by simpa using hatY)
            obtain ⟨aY, cY, rfl⟩ := own_slice hownY
            (try rw [List.nil_append] at T5)
            (try simp only [Nat.zero_add, List.set_cons_zero] at T5)
            (try simp only [Nat.zero_add])
            have S3 := Lib.hid (Sp.pick [1, 0] (T5.own_made 3 1) rfl)
            clear T0 T5 hownY hgY hatY hs2 h1c
            go_wp2_with fail
            go_loopw [12, 10, 11] (fun i o tt wr => ∃ (q t : Nat) (ov tv : Value), q ≤ ys.length ∧ t = xs.length + q ∧ i = .int .i64 (q : Int) ∧ o = ov ∧ tt = tv ∧ Hid (Sp w wr [Own 41 3 ov t ((joinT xs ys q).flatMap gtEnc), Own 3 1 tv q (toL xs.length q)])) (fun i _ _ _ => ys.length - (intOf i).toNat)
            case atStart => exact ⟨0, xs.length, _, _, Nat.zero_le _, rfl, rfl, rfl, rfl, by unfold Hid; rw [joinT_zero, toL_zero]; exact S3.out⟩
            case round =>
              obtain ⟨q, t, ov, tv, hqn, ht, rfl, rfl, rfl, hS⟩ := hrel
              clear S3
              obtain ⟨aO, cO, rfl⟩ := own_slice (hS.out.own (i := 0) rfl)
              obtain ⟨aT, cT, rfl⟩ := own_slice (hS.out.own (i := 1) rfl)
              have htl : t ≤ 1000 := by omega
              by_cases hlt : q < ys.length
              · have hqi : (q : Int) < ys.length := by omega
                have hgx := gtB_iff.1 (hok2.out q hlt)
                have hlt2 := ins_lt (hok2.out q hlt)
                have htk := joinT_next (xs := xs) hlt
                have hat := Lib.hid (fun W (h : Below w.heap.size w W) => (hY.out.grow h).at_ q hlt)
                generalize ys[q] = g at hgx hlt2 htk hat
                obtain ⟨gk, ga, gb⟩ := g
                obtain ⟨x, hxe⟩ : ∃ x : Int, ((q + xs.length : Nat) : Int) = x := ⟨_, rfl⟩
                have hw3 : IntKind.i64.wrap ((xs.length : Int) + q) = x := by rw [show (xs.length : Int) + q = x by omega]; exact IntWalk.i64_in _ (by omega)
                replace htk := Lib.hid htk
                replace hgx := Lib.hid hgx
                replace hlt2 := Lib.hid hlt2
                replace ht := Lib.hid ht
                replace hxe := Lib.hid hxe
                have S3 := hS.out.alloc_box #[.int .i64 x] 3
                (try simp only [World.size_alloc, World.size_setCell] at S3)
                have kB := S3.cell (i := 0) rfl (o := 0) rfl
                replace S3 := Lib.hid S3
                clear hS
                go_wp2_with (at_builtin; refine wpList_append_src rfl _ _ rfl Try.underlying45 hj0 hy0 hy1 hy2 rfl (by decide) _ q _ rfl (S3.out.own (i := 2) rfl) _ 1 1 [.int .i64 x] rfl (Src.one kB) (by simp [Value.oneCell']) ?c3 ?c4 ?_)
                case c3 => unfold maxLen; omega
                case c4 => omega
                intro vE wE hownE hgE hatE
                have S4 := (S3.out.own_push (i := 2) rfl (bb _) hownE hgE (by simpa using hatE)).tail
                simp only [List.set_cons_zero, List.set_cons_succ] at S4
                obtain ⟨aN, cN, rfl⟩ := own_slice hownE
                have hS := Lib.hid S4
                clear S3 S4 kB hownE hgE hatE
                have hto : Hid (toL xs.length q ++ [.int .i64 x] = toL xs.length (q + 1)) := by unfold Hid; rw [toL_next, hxe.out]
                rw [hto.out] at hS
                obtain ⟨tb, tcap, tcur, te, -, th, -, -, -, tt⟩ := own_block (hS.out.own (i := 1) rfl) (Nat.succ_pos q)
                cases te
                obtain ⟨bg, og, e, m0, m1, m2⟩ := hat.out _ hS.out.below
                cases e
                have hmv := Lib.hid (l6Moved_any ⟨gk, ga, gb⟩ tb 0 (q + 1) cN (fun k => k + xs.length) (by have := hgx.out; dsimp only at this ⊢; omega) (by have := hgx.out; dsimp only at this ⊢; omega) _ (fun k hk => by
                  have hk2 := hlt2.out k hk
                  refine ⟨by omega, ?_⟩
                  rw [Nat.zero_add]
                  have h5 := (own_at th tt (o := k) (by omega)).1
                  rw [toL_get (by omega)] at h5
                  exact h5))
                generalize mvG (fun k => k + xs.length) ⟨gk, ga, gb⟩ = z at hmv htk
                obtain ⟨zk, za, zb⟩ := z
                try dsimp only at m0 m1 m2
                clear hgx hlt2 hat th tt hto hxe hw3
                go_wp2_with fail
                refine hmv.out.mono ?_
                rintro e w4 ⟨rfl, hb4⟩
                replace hS := Lib.hid (hS.out.grow hb4)
                clear hmv hb4 m0 m1 m2
                have S3 := hS.out.alloc_box #[.int .i64 zk, .int .i64 za, .int .i64 zb] 41
                (try simp only [World.size_setCell] at S3)
                have kG0 := S3.cell (i := 0) rfl (o := 0) rfl
                have kG1 := S3.cell (i := 0) rfl (o := 1) rfl
                have kG2 := S3.cell (i := 0) rfl (o := 2) rfl
                replace S3 := Lib.hid S3
                clear hS
                go_wp2_with (at_builtin; refine wpList_append_src rfl _ _ rfl Try.underlying28 hi0 hz0 hz1 hz2 rfl (by decide) _ t _ rfl (S3.out.own (i := 1) rfl) _ 1 1 [.int .i64 zk, .int .i64 za, .int .i64 zb] rfl (Src.threeG kG0 kG1 kG2) (by simp [Value.oneCell']) ?c3 ?c4 ?_)
                case c3 => unfold maxLen; omega
                case c4 => omega
                intro vE wE hownE hgE hatE
                have S4 := (S3.out.own_push (i := 1) rfl (bb _) hownE hgE (by simpa using hatE)).tail
                simp only [List.set_cons_zero, List.set_cons_succ] at S4
                obtain ⟨aE, cE, rfl⟩ := own_slice hownE
                have hS := Lib.hid S4
                clear S3 S4 kG0 kG1 kG2 hownE hgE hatE
                go_wp2_with fail
                go_roundw
                case rel =>
                  refine ⟨q + 1, t + 1, _, _, by omega, by have := ht.out; omega, by first | rfl | simp, rfl, rfl, ?_⟩
                  unfold Hid
                  rw [htk.out, flat_snoc]
                  exact hS.out
                case measure => simp [intOf]; omega
              · obtain rfl : q = ys.length := by omega
                have S5 := Lib.hid (hS.out.pick [0] rfl)
                have hw3 : IntKind.i64.wrap ((xs.length : Int) - 1) = ((xs.length - 1 : Nat) : Int) := by rw [show (xs.length : Int) - 1 = ((xs.length - 1 : Nat) : Int) by omega]; exact IntWalk.i64_in _ (by omega)
                have hJl : Hid ((joinT xs ys ys.length ++ [(⟨5, ((xs.length - 1 : Nat) : Int), ((xs.length + ys.length - 1 : Nat) : Int)⟩ : Gt)]).length = t + 1) := by unfold Hid; simp [joinT]; omega
                obtain ⟨a1, ha1⟩ : ∃ a : Int, ((xs.length - 1 : Nat) : Int) = a := ⟨_, rfl⟩
                have ha2 : ((xs.length + ys.length - 1 : Nat) : Int) = (xs.length : Int) + ys.length - 1 := by omega
                rw [ha1] at hw3 hJl
                rw [ha2] at hJl
                replace ha1 := Lib.hid ha1
                replace ha2 := Lib.hid ha2
                replace ht := Lib.hid ht
                clear hS
                have S3 := S5.out.alloc_box #[.int .i64 5, .int .i64 a1, .int .i64 ((xs.length : Int) + ys.length - 1)] 41
                (try simp only [World.size_setCell] at S3)
                have kG0 := S3.cell (i := 0) rfl (o := 0) rfl
                have kG1 := S3.cell (i := 0) rfl (o := 1) rfl
                have kG2 := S3.cell (i := 0) rfl (o := 2) rfl
                replace S3 := Lib.hid S3
                clear S5
                go_wp2_with (at_builtin; refine wpList_append_src rfl _ _ rfl Try.underlying28 hi0 hz0 hz1 hz2 rfl (by decide) _ t _ rfl (S3.out.own (i := 1) rfl) _ 1 1 [.int .i64 5, .int .i64 a1, .int .i64 ((xs.length : Int) + ys.length - 1)] rfl (Src.threeG kG0 kG1 kG2) (by simp [Value.oneCell']) ?c3 ?c4 ?_)
                case c3 => unfold maxLen; omega
                case c4 => omega
                intro vE wE hownE hgE hatE
                have S4 := (S3.out.own_push (i := 1) rfl (bb _) hownE hgE (by simpa using hatE)).tail
                simp only [List.set_cons_zero, List.set_cons_succ] at S4
                obtain ⟨aE, cE, rfl⟩ := own_slice hownE
                have S5 := Lib.hid S4
                clear S3 S4 kG0 kG1 kG2 hownE hgE hatE
                go_wp2_with fail
                go_ret2
                refine GOut.yes ?_
                rw [ha1.out, ha2.out, hJl.out, flat_snoc]
                exact S5.out
          · have ekk : ((6 : Int) == 5) = false := rfl
            go_enter Try.func37, Try.ntmps37
            go_wp2_with fail
            refine hc.out.mono ?_
            rintro e w1 ⟨rfl, hb1⟩
            have S1 := Lib.hid (Sp.of_below hb1)
            clear hb1 hc
            have hd2 := Lib.hid (hd.out _ S1.out.below)
            go_wp2_with fail
            refine hd2.out.mono ?_
            rintro e w2 ⟨rfl, hb2⟩
            have S2 := Lib.hid (S1.out.grow hb2)
            clear hb2 hd hd2 S1
            have T0 := Lib.hid (S2.out.own_made 41 3)
            have hs2 := Lib.hid (hsr.out _ T0.out.below)
            clear S2 hsr
            go_wp2_with (at_builtin; refine wpList_append_src rfl _ _ rfl Try.underlying28 hi0 hz0 hz1 hz2 rfl (by decide) _ 0 _ rfl (T0.out.own (i := 0) rfl) A xs.length c (xs.flatMap gtEnc) rfl hs2.out h1c.out ?c3 ?c4 ?_)
            case c3 => unfold maxLen; omega
            case c4 => omega
            intro vY wY hownY hgY hatY
            have T5 := T0.out.own_push (i := 0) rfl (bb _) hownY hgY (by simpa using hatY)
            obtain ⟨aY, cY, rfl⟩ := own_slice hownY
            (try rw [List.nil_append] at T5)
            (try simp only [Nat.zero_add, List.set_cons_zero] at T5)
            (try simp only [Nat.zero_add])
            have S3 := Lib.hid (Sp.pick [1, 0] (T5.own_made 3 1) rfl)
            clear T0 T5 hownY hgY hatY hs2 h1c
            go_wp2_with fail
            go_loopw [12, 10, 11] (fun i o tt wr => ∃ (q t : Nat) (ov tv : Value), q ≤ ys.length ∧ t = xs.length + q ∧ i = .int .i64 (q : Int) ∧ o = ov ∧ tt = tv ∧ Hid (Sp w wr [Own 41 3 ov t ((joinT xs ys q).flatMap gtEnc), Own 3 1 tv q (toL xs.length q)])) (fun i _ _ _ => ys.length - (intOf i).toNat)
            case atStart => exact ⟨0, xs.length, _, _, Nat.zero_le _, rfl, rfl, rfl, rfl, by unfold Hid; rw [joinT_zero, toL_zero]; exact S3.out⟩
            case round =>
              obtain ⟨q, t, ov, tv, hqn, ht, rfl, rfl, rfl, hS⟩ := hrel
              clear S3
              obtain ⟨aO, cO, rfl⟩ := own_slice (hS.out.own (i := 0) rfl)
              obtain ⟨aT, cT, rfl⟩ := own_slice (hS.out.own (i := 1) rfl)
              have htl : t ≤ 1000 := by omega
              by_cases hlt : q < ys.length
              · have hqi : (q : Int) < ys.length := by omega
                have hgx := gtB_iff.1 (hok2.out q hlt)
                have hlt2 := ins_lt (hok2.out q hlt)
                have htk := joinT_next (xs := xs) hlt
                have hat := Lib.hid (fun W (h : Below w.heap.size w W) => (hY.out.grow h).at_ q hlt)
                generalize ys[q] = g at hgx hlt2 htk hat
                obtain ⟨gk, ga, gb⟩ := g
                obtain ⟨x, hxe⟩ : ∃ x : Int, ((q + xs.length : Nat) : Int) = x := ⟨_, rfl⟩
                have hw3 : IntKind.i64.wrap ((xs.length : Int) + q) = x := by rw [show (xs.length : Int) + q = x by omega]; exact IntWalk.i64_in _ (by omega)
                replace htk := Lib.hid htk
                replace hgx := Lib.hid hgx
                replace hlt2 := Lib.hid hlt2
                replace ht := Lib.hid ht
                replace hxe := Lib.hid hxe
                have S3 := hS.out.alloc_box #[.int .i64 x] 3
                (try simp only [World.size_alloc, World.size_setCell] at S3)
                have kB := S3.cell (i := 0) rfl (o := 0) rfl
                replace S3 := Lib.hid S3
                clear hS
                go_wp2_with (at_builtin; refine wpList_append_src rfl _ _ rfl Try.underlying45 hj0 hy0 hy1 hy2 rfl (by decide) _ q _ rfl (S3.out.own (i := 2) rfl) _ 1 1 [.int .i64 x] rfl (Src.one kB) (by simp [Value.oneCell']) ?c3 ?c4 ?_)
                case c3 => unfold maxLen; omega
                case c4 => omega
                intro vE wE hownE hgE hatE
                have S4 := (S3.out.own_push (i := 2) rfl (bb _) hownE hgE (by simpa using hatE)).tail
                simp only [List.set_cons_zero, List.set_cons_succ] at S4
                obtain ⟨aN, cN, rfl⟩ := own_slice hownE
                have hS := Lib.hid S4
                clear S3 S4 kB hownE hgE hatE
                have hto : Hid (toL xs.length q ++ [.int .i64 x] = toL xs.length (q + 1)) := by unfold Hid; rw [toL_next, hxe.out]
                rw [hto.out] at hS
                obtain ⟨tb, tcap, tcur, te, -, th, -, -, -, tt⟩ := own_block (hS.out.own (i := 1) rfl) (Nat.succ_pos q)
                cases te
                obtain ⟨bg, og, e, m0, m1, m2⟩ := hat.out _ hS.out.below
                cases e
                have hmv := Lib.hid (l6Moved_any ⟨gk, ga, gb⟩ tb 0 (q + 1) cN (fun k => k + xs.length) (by have := hgx.out; dsimp only at this ⊢; omega) (by have := hgx.out; dsimp only at this ⊢; omega) _ (fun k hk => by
                  have hk2 := hlt2.out k hk
                  refine ⟨by omega, ?_⟩
                  rw [Nat.zero_add]
                  have h5 := (own_at th tt (o := k) (by omega)).1
                  rw [toL_get (by omega)] at h5
                  exact h5))
                generalize mvG (fun k => k + xs.length) ⟨gk, ga, gb⟩ = z at hmv htk
                obtain ⟨zk, za, zb⟩ := z
                try dsimp only at m0 m1 m2
                clear hgx hlt2 hat th tt hto hxe hw3
                go_wp2_with fail
                refine hmv.out.mono ?_
                rintro e w4 ⟨rfl, hb4⟩
                replace hS := Lib.hid (hS.out.grow hb4)
                clear hmv hb4 m0 m1 m2
                have S3 := hS.out.alloc_box #[.int .i64 zk, .int .i64 za, .int .i64 zb] 41
                (try simp only [World.size_setCell] at S3)
                have kG0 := S3.cell (i := 0) rfl (o := 0) rfl
                have kG1 := S3.cell (i := 0) rfl (o := 1) rfl
                have kG2 := S3.cell (i := 0) rfl (o := 2) rfl
                replace S3 := Lib.hid S3
                clear hS
                go_wp2_with (at_builtin; refine wpList_append_src rfl _ _ rfl Try.underlying28 hi0 hz0 hz1 hz2 rfl (by decide) _ t _ rfl (S3.out.own (i := 1) rfl) _ 1 1 [.int .i64 zk, .int .i64 za, .int .i64 zb] rfl (Src.threeG kG0 kG1 kG2) (by simp [Value.oneCell']) ?c3 ?c4 ?_)
                case c3 => unfold maxLen; omega
                case c4 => omega
                intro vE wE hownE hgE hatE
                have S4 := (S3.out.own_push (i := 1) rfl (bb _) hownE hgE (by simpa using hatE)).tail
                simp only [List.set_cons_zero, List.set_cons_succ] at S4
                obtain ⟨aE, cE, rfl⟩ := own_slice hownE
                have hS := Lib.hid S4
                clear S3 S4 kG0 kG1 kG2 hownE hgE hatE
                go_wp2_with fail
                go_roundw
                case rel =>
                  refine ⟨q + 1, t + 1, _, _, by omega, by have := ht.out; omega, by first | rfl | simp, rfl, rfl, ?_⟩
                  unfold Hid
                  rw [htk.out, flat_snoc]
                  exact hS.out
                case measure => simp [intOf]; omega
              · obtain rfl : q = ys.length := by omega
                have S5 := Lib.hid (hS.out.pick [0] rfl)
                have hw3 : IntKind.i64.wrap ((xs.length : Int) - 1) = ((xs.length - 1 : Nat) : Int) := by rw [show (xs.length : Int) - 1 = ((xs.length - 1 : Nat) : Int) by omega]; exact IntWalk.i64_in _ (by omega)
                have hJl : Hid ((joinT xs ys ys.length ++ [(⟨6, ((xs.length - 1 : Nat) : Int), ((xs.length + ys.length - 1 : Nat) : Int)⟩ : Gt)]).length = t + 1) := by unfold Hid; simp [joinT]; omega
                obtain ⟨a1, ha1⟩ : ∃ a : Int, ((xs.length - 1 : Nat) : Int) = a := ⟨_, rfl⟩
                have ha2 : ((xs.length + ys.length - 1 : Nat) : Int) = (xs.length : Int) + ys.length - 1 := by omega
                rw [ha1] at hw3 hJl
                rw [ha2] at hJl
                replace ha1 := Lib.hid ha1
                replace ha2 := Lib.hid ha2
                replace ht := Lib.hid ht
                clear hS
                have S3 := S5.out.alloc_box #[.int .i64 6, .int .i64 a1, .int .i64 ((xs.length : Int) + ys.length - 1)] 41
                (try simp only [World.size_setCell] at S3)
                have kG0 := S3.cell (i := 0) rfl (o := 0) rfl
                have kG1 := S3.cell (i := 0) rfl (o := 1) rfl
                have kG2 := S3.cell (i := 0) rfl (o := 2) rfl
                replace S3 := Lib.hid S3
                clear S5
                go_wp2_with (at_builtin; refine wpList_append_src rfl _ _ rfl Try.underlying28 hi0 hz0 hz1 hz2 rfl (by decide) _ t _ rfl (S3.out.own (i := 1) rfl) _ 1 1 [.int .i64 6, .int .i64 a1, .int .i64 ((xs.length : Int) + ys.length - 1)] rfl (Src.threeG kG0 kG1 kG2) (by simp [Value.oneCell']) ?c3 ?c4 ?_)
                case c3 => unfold maxLen; omega
                case c4 => omega
                intro vE wE hownE hgE hatE
                have S4 := (S3.out.own_push (i := 1) rfl (bb _) hownE hgE (by simpa using hatE)).tail
                simp only [List.set_cons_zero, List.set_cons_succ] at S4
                obtain ⟨aE, cE, rfl⟩ := own_slice hownE
                have S5 := Lib.hid S4
                clear S3 S4 kG0 kG1 kG2 hownE hgE hatE
                go_wp2_with fail
                go_ret2
                refine GOut.yes ?_
                rw [ha1.out, ha2.out, hJl.out, flat_snoc]
                exact S5.out
        · have hjj : ((decide (kind = 5) || decide (kind = 6)) && decide (xs.length + ys.length < 200)) = false := by simp [hlen]
          rw [hjj]
          clear hjj
          have hgt : (200 : Int) ≤ ((xs.length + ys.length : Nat) : Int) := by omega
          rcases hkk with rfl | rfl
          · have ekk : ((5 : Int) == 5) = true := rfl
            go_enter Try.func37, Try.ntmps37
            go_wp2_with fail
            refine hc.out.mono ?_
            rintro e w1 ⟨rfl, hb1⟩
            have S1 := Lib.hid (Sp.of_below hb1)
            clear hb1 hc
            have hd2 := Lib.hid (hd.out _ S1.out.below)
            go_wp2_with fail
            refine hd2.out.mono ?_
            rintro e w2 ⟨rfl, hb2⟩
            have S2 := Lib.hid (S1.out.grow hb2)
            clear hb2 hd hd2 S1
            go_wp2_with fail
            go_ret2
            exact ⟨_, rfl, (S2.out.own_made 41 3)⟩
          · have ekk : ((6 : Int) == 5) = false := rfl
            go_enter Try.func37, Try.ntmps37
            go_wp2_with fail
            refine hc.out.mono ?_
            rintro e w1 ⟨rfl, hb1⟩
            have S1 := Lib.hid (Sp.of_below hb1)
            clear hb1 hc
            have hd2 := Lib.hid (hd.out _ S1.out.below)
            go_wp2_with fail
            refine hd2.out.mono ?_
            rintro e w2 ⟨rfl, hb2⟩
            have S2 := Lib.hid (S1.out.grow hb2)
            clear hb2 hd hd2 S1
            go_wp2_with fail
            go_ret2
            exact ⟨_, rfl, (S2.out.own_made 41 3)⟩
      · have hjj : ((decide (kind = 5) || decide (kind = 6)) && decide (xs.length + ys.length < 200)) = false := by
          rw [decide_eq_false (fun h => hkk (.inl h)), decide_eq_false (fun h => hkk (.inr h))]; rfl
        rw [hjj]
        clear hjj
        have e5 : (kind == 5) = false := beq_eq_false_iff_ne.2 fun h => hkk (.inl h)
        have e6 : (kind == 6) = false := beq_eq_false_iff_ne.2 fun h => hkk (.inr h)
        have e7 : (kind != 5) = true := bne_iff_ne.2 fun h => hkk (.inl h)
        have e8 : (kind != 6) = true := bne_iff_ne.2 fun h => hkk (.inr h)
        go_enter Try.func37, Try.ntmps37
        go_wp2_with fail
        refine hc.out.mono ?_
        rintro e w1 ⟨rfl, hb1⟩
        have S1 := Lib.hid (Sp.of_below hb1)
        clear hb1 hc
        have hd2 := Lib.hid (hd.out _ S1.out.below)
        go_wp2_with fail
        refine hd2.out.mono ?_
        rintro e w2 ⟨rfl, hb2⟩
        have S2 := Lib.hid (S1.out.grow hb2)
        clear hb2 hd hd2 S1
        go_wp2_with fail
        go_ret2
        exact ⟨_, rfl, (S2.out.own_made 41 3)⟩
end Go.Proofs.Ytkhopkonddgicaa

/- What a function that tells gates and a truth value has told. -/
namespace Go.Proofs.Ytkhopkonddgicaa
open Go.RowKit

theorem GOut.got {w w' : World} {gs : List Gt} {e : Ending} (h : GOut w true gs e w') (hok : ∀ x ∈ gs, gtOk x) :
    ∃ A c, e = .returned (.tuple #[.slice A gs.length c, .bool true]) ∧ GtAt w' A gs ∧ Below w.heap.size w w' := by
  obtain ⟨v, rfl, S⟩ := h
  obtain ⟨A, c, rfl, hG⟩ := gt_own (S.own (i := 0) rfl) hok
  exact ⟨A, c, rfl, hG, S.below⟩
theorem GOut.none {w w' : World} {gs : List Gt} {e : Ending} (h : GOut w false gs e w') :
    ∃ A c, e = .returned (.tuple #[.slice A 0 c, .bool false]) ∧ Below w.heap.size w w' := by
  obtain ⟨v, rfl, S⟩ := h
  obtain ⟨A, c, rfl⟩ := own_slice (S.own (i := 0) rfl)
  exact ⟨A, c, rfl, S.below⟩
end Go.Proofs.Ytkhopkonddgicaa

/- Contract: a number among numbers, in the laws. -/
namespace Go.Proofs.Ytkhopkonddgicaa
open Go.RowKit

theorem contains_next {xs : List Int} {k : Nat} (hk : k < xs.length) (x : Int) : (xs.take (k + 1)).contains x = ((xs.take k).contains x || (x == xs[k])) := by
  rw [List.take_succ_eq_append_getElem hk, List.contains_append]
  congr 1
  rw [Bool.eq_iff_iff]
  simp
theorem contains_take {xs : List Int} {k : Nat} {x : Int} (h : (xs.take k).contains x = true) : xs.contains x = true := by
  rw [List.contains_iff_mem] at *
  exact List.mem_of_mem_take h

set_option maxHeartbeats 2000000 in
theorem rHas_any (A : Option Addr) (cap : Nat) (xs : List Int) (x : Int) (w : World) (hx : IntsAt w A xs) (hl : xs.length ≤ 1000000) :
    Calls Try.prog 34 #[.slice A xs.length cap, .int .i64 x] w fun e w' => e = .returned (.bool (xs.contains x)) ∧ w' = w := by
  have hN := Lib.hid hx
  clear hx
  obtain ⟨q, hq⟩ : ∃ q, xs.contains x = q := ⟨_, rfl⟩
  rw [hq]
  replace hq := Lib.hid hq
  go_enter Try.func34, Try.ntmps34
  go_wp2_with fail
  go_loopw [5] (fun vi wr => ∃ k : Nat, k ≤ xs.length ∧ vi = .int .i64 k ∧ Hid ((xs.take k).contains x = false) ∧ wr = w) (fun vi _ => xs.length - (intOf vi).toNat)
  case atStart => exact ⟨0, Nat.zero_le _, rfl, rfl, rfl⟩
  case round =>
    obtain ⟨k, hk, rfl, hno, rfl⟩ := hrel
    by_cases hlt : k < xs.length
    · obtain ⟨b, off, rfl, m0⟩ := hN.out.at_ k hlt
      have hnx := Lib.hid (contains_next hlt x)
      have hall := Lib.hid (fun h => contains_take (xs := xs) (k := k + 1) (x := x) h)
      generalize xs[k] = y at *
      by_cases hyx : y = x
      · have d0 : (y == x) = true := by rw [hyx]; simp
        have d1 : decide (y = x) = true := decide_eq_true hyx
        have hyes : xs.contains x = true := hall.out (by rw [hnx.out, hyx]; simp)
        obtain rfl : q = true := by rw [← hq.out]; exact hyes
        subst hyx
        clear hnx hall hyes
        go_wp2_with fail
        go_ret
        exact ⟨rfl, rfl⟩
      · have d0 : (y == x) = false := by simpa using hyx
        have d1 : decide (y = x) = false := decide_eq_false hyx
        have hno2 : Hid ((xs.take (k + 1)).contains x = false) := by
          unfold Hid
          rw [hnx.out, hno.out]
          simpa using fun h => hyx h.symm
        clear hnx hall
        go_wp2_with fail
        go_roundw
        case rel => exact ⟨k + 1, by omega, by go_num, hno2, by first | rfl | trivial⟩
        case measure => simp [intOf]; omega
    · obtain rfl : k = xs.length := by omega
      have hz : xs.contains x = false := by have := hno.out; rwa [List.take_length] at this
      obtain rfl : q = false := by rw [← hq.out]; exact hz
      clear hz
      go_wp2_with fail
      go_ret
      exact ⟨rfl, rfl⟩
end Go.Proofs.Ytkhopkonddgicaa

/- Plain facts: the variables of clauses, in ascending order. No program in sight. -/
namespace Go.Proofs.Ytkhopkonddgicaa
open Go.RowKit

theorem ascI_ext : ∀ {a b : List Int}, a.Pairwise (· < ·) → b.Pairwise (· < ·) → (∀ x, x ∈ a ↔ x ∈ b) → a = b
  | [], [], _, _, _ => rfl
  | [], y :: b, _, _, h => absurd ((h y).2 (List.mem_cons_self ..)) (by simp)
  | x :: a, [], _, _, h => absurd ((h x).1 (List.mem_cons_self ..)) (by simp)
  | x :: a, y :: b, ha, hb, h => by
    rw [List.pairwise_cons] at ha hb
    have e : x = y := by
      rcases List.mem_cons.1 ((h x).1 (List.mem_cons_self ..)) with e | hx
      · exact e
      rcases List.mem_cons.1 ((h y).2 (List.mem_cons_self ..)) with e | hy
      · exact e.symm
      have := hb.1 x hx; have := ha.1 y hy; omega
    subst e
    congr 1
    refine ascI_ext ha.2 hb.2 fun z => ⟨fun hz => ?_, fun hz => ?_⟩
    · rcases List.mem_cons.1 ((h z).1 (List.mem_cons_of_mem _ hz)) with e | h2
      · have := ha.1 z hz; omega
      · exact h2
    · rcases List.mem_cons.1 ((h z).2 (List.mem_cons_of_mem _ hz)) with e | h2
      · have := hb.1 z hz; omega
      · exact h2
theorem bangI {l : List Int} {j : Nat} (h : j < l.length) : l.toArray[j]! = l[j] := by rw [getElem!_pos l.toArray j (by simpa using h)]; simp
theorem compactI_mem {l : List Int} {x : Int} : x ∈ Lib.compact l ↔ x ∈ l := by
  unfold Lib.compact Lib.compactUpTo
  rw [List.mem_map]
  constructor
  · rintro ⟨j, hj, rfl⟩
    have hjl := List.mem_range.1 (List.mem_filter.1 hj).1
    rw [bangI hjl]
    exact List.getElem_mem hjl
  · intro hx
    obtain ⟨j, hj, rfl⟩ := List.getElem_of_mem hx
    have key : ∀ j (hj : j < l.length), ∃ i, i ∈ (List.range l.length).filter (Lib.keeps l.toArray) ∧ l.toArray[i]! = l[j] := by
      intro j
      induction j with
      | zero => exact fun hj => ⟨0, List.mem_filter.2 ⟨List.mem_range.2 hj, by simp [Lib.keeps]⟩, bangI hj⟩
      | succ j ih =>
        intro hj
        by_cases e : l[j + 1] = l[j]
        · obtain ⟨i, hi, h2⟩ := ih (by omega)
          exact ⟨i, hi, by rw [h2, e]⟩
        · refine ⟨j + 1, List.mem_filter.2 ⟨List.mem_range.2 hj, ?_⟩, bangI hj⟩
          refine Lib.keeps_pos ?_
          rw [Nat.add_sub_cancel, bangI hj, bangI (by omega)]
          exact e
    exact key j hj
theorem compactI_asc {l : List Int} (h : l.Pairwise (· ≤ ·)) : (Lib.compact l).Pairwise (· < ·) := by
  unfold Lib.compact Lib.compactUpTo
  rw [List.pairwise_map]
  have hr : ((List.range l.length).filter (Lib.keeps l.toArray)).Pairwise (· < ·) := List.Pairwise.filter _ List.pairwise_lt_range
  refine hr.imp_of_mem fun {i j} hi hj hij => ?_
  have hil := List.mem_range.1 (List.mem_filter.1 hi).1
  have hjl := List.mem_range.1 (List.mem_filter.1 hj).1
  have hk := (List.mem_filter.1 hj).2
  rw [bangI hil, bangI hjl]
  have hget := List.pairwise_iff_getElem.1 h
  have hne : l[j] ≠ l[j - 1]'(by omega) := fun e => by
    have : Lib.keeps l.toArray j = false := Lib.keeps_neg (by omega) (by rw [bangI hjl, bangI (by omega)]; exact e)
    rw [this] at hk; cases hk
  have h1 : l[j - 1]'(by omega) ≤ l[j] := hget (j - 1) j (by omega) hjl (by omega)
  by_cases e : i = j - 1
  · subst e; omega
  · have := hget i (j - 1) hil (by omega) (by omega); omega
theorem sorted_le (l : List Int) : (l.mergeSort fun x y => decide (x ≤ y)).Pairwise (· ≤ ·) := by
  have h := List.pairwise_mergeSort (le := fun x y : Int => decide (x ≤ y)) (fun a b c h1 h2 => by simp at *; omega) (fun a b => by simp; omega) l
  exact h.imp fun h => by simpa using h
/-- A list in ascending order, without repetitions. -/
def ascL (l : List Int) : List Int := Lib.compact (l.mergeSort fun x y => decide (x ≤ y))
theorem ascL_asc (l : List Int) : (ascL l).Pairwise (· < ·) := compactI_asc (sorted_le l)
theorem ascL_mem {l : List Int} {x : Int} : x ∈ ascL l ↔ x ∈ l := by unfold ascL; rw [compactI_mem, List.mem_mergeSort]
theorem ascL_eq {l m : List Int} (hm : m.Pairwise (· < ·)) (h : ∀ x, x ∈ l ↔ x ∈ m) : ascL l = m := ascI_ext (ascL_asc l) hm fun x => by rw [ascL_mem, h]

/-- The variables up to n with a property. -/
def varF (n : Nat) (p : Nat → Bool) : List Int := ((List.range' 1 n).filter p).map fun (v : Nat) => (v : Int)
theorem varF_asc (n : Nat) (p : Nat → Bool) : (varF n p).Pairwise (· < ·) := by
  unfold varF
  rw [List.pairwise_map]
  exact (List.Pairwise.filter _ (List.pairwise_lt_range' (s := 1) (n := n))).imp fun h => by omega
theorem varF_mem {n : Nat} {p : Nat → Bool} {x : Int} : x ∈ varF n p ↔ 1 ≤ x ∧ x ≤ n ∧ p x.toNat = true := by
  unfold varF
  simp only [List.mem_map, List.mem_filter, List.mem_range'_1]
  constructor
  · rintro ⟨v, ⟨⟨h1, h2⟩, h3⟩, rfl⟩
    exact ⟨by omega, by omega, by simpa using h3⟩
  · rintro ⟨h1, h2, h3⟩
    exact ⟨x.toNat, ⟨⟨by omega, by omega⟩, h3⟩, by omega⟩
theorem varF_len (n : Nat) (p : Nat → Bool) : (varF n p).length ≤ n := by
  unfold varF
  rw [List.length_map]
  exact Nat.le_trans (List.length_filter_le _ _) (by simp)
theorem varF_snoc (n : Nat) (p : Nat → Bool) : varF (n + 1) p = varF n p ++ (if p (n + 1) = true then [((n + 1 : Nat) : Int)] else []) := by
  unfold varF
  rw [List.range'_concat, List.filter_append, List.map_append]
  congr 1
  rw [Nat.one_mul, Nat.add_comm 1 n]
  by_cases h : p (n + 1) = true <;> simp [h]
theorem varF_sub (n : Nat) (p q : Nat → Bool) : (varF n p).filter (fun x => q x.toNat) = varF n fun v => p v && q v := by
  unfold varF
  rw [List.filter_map, List.filter_filter]
  congr 1
  apply List.filter_congr
  intro v _
  simp [Function.comp, Bool.and_comm]
theorem varF_split (n : Nat) (p q : Nat → Bool) : (varF n fun v => p v && !q v).length + (varF n fun v => q v && !p v).length + (varF n fun v => p v && q v).length = (varF n fun v => p v || q v).length := by
  unfold varF
  simp only [List.length_map]
  induction List.range' 1 n with
  | nil => rfl
  | cons v l ih =>
    simp only [List.filter_cons]
    cases p v <;> cases q v <;> simp <;> omega
theorem varF_congr {n : Nat} {p q : Nat → Bool} (h : ∀ v, 1 ≤ v → v ≤ n → p v = q v) : varF n p = varF n q := by
  unfold varF
  congr 1
  apply List.filter_congr
  intro v hv
  rw [List.mem_range'_1] at hv
  exact h v hv.1 (by omega)

/-- A variable is in some clause. -/
def usedB (cls : List (List Int)) (v : Nat) : Bool := cls.any fun c => c.any fun l => l.natAbs == v
/-- All literals' variables. -/
def flatA (cls : List (List Int)) : List Int := cls.flatMap fun c => c.map fun l => (l.natAbs : Int)
theorem flatA_take {cls : List (List Int)} {k : Nat} (h : k < cls.length) : flatA (cls.take (k + 1)) = flatA (cls.take k) ++ cls[k].map fun l => (l.natAbs : Int) := by
  unfold flatA
  rw [List.take_succ_eq_append_getElem h, List.flatMap_append]
  simp
theorem used_asc {cls : List (List Int)} {n : Nat} (h : ∀ c ∈ cls, ∀ l ∈ c, l ≠ 0 ∧ l.natAbs ≤ n) : ascL (flatA cls) = varF n (usedB cls) := by
  refine ascL_eq (varF_asc _ _) fun x => ?_
  rw [varF_mem]
  unfold flatA usedB
  simp only [List.mem_flatMap, List.mem_map, List.any_eq_true, beq_iff_eq]
  constructor
  · rintro ⟨c, hc, l, hl, rfl⟩
    have := h c hc l hl
    exact ⟨by omega, by omega, c, hc, l, hl, by simp⟩
  · rintro ⟨h1, -, c, hc, l, hl, h2⟩
    exact ⟨c, hc, l, hl, by omega⟩
theorem flatA_len {cls : List (List Int)} {m : Nat} (h : ∀ c ∈ cls, c.length ≤ m) : (flatA cls).length ≤ m * cls.length := by
  unfold flatA
  induction cls with
  | nil => simp
  | cons c cls ih =>
    rw [List.flatMap_cons, List.length_append, List.length_map, List.length_cons, Nat.mul_add]
    have := h c (List.mem_cons_self ..)
    have := ih fun d hd => h d (List.mem_cons_of_mem _ hd)
    omega
end Go.Proofs.Ytkhopkonddgicaa

/- Plain facts: bits set and cleared, as the program reckons them. -/
namespace Go.Proofs.Ytkhopkonddgicaa
open Go.RowKit

theorem ofInt_i64 (a : Nat) (ha : a < 18446744073709551616) : (BitVec.ofInt 64 (a : Int)).toNat = a := by
  rw [BitVec.ofInt_natCast, BitVec.toNat_ofNat]; exact Nat.mod_eq_of_lt (by omega)
theorem pow_small {u n : Nat} (hu : u < n) (hn : n ≤ 12) : 2 ^ u < 2 ^ n ∧ 2 ^ n ≤ 4096 := ⟨Nat.pow_lt_pow_right (by omega) hu, Nat.pow_le_pow_right (n := 2) (by omega) hn⟩
theorem or_set {n u b : Nat} (hu : u < n) (hn : n ≤ 12) (hb : b < 2 ^ n) : ∃ c : Nat, c < 2 ^ n ∧ bits .or .i64 (b : Int) ((2 ^ u : Nat) : Int) = (c : Int) ∧ ∀ i, c.testBit i = (b.testBit i || decide (u = i)) := by
  obtain ⟨h1, h2⟩ := pow_small hu hn
  have h3 : b ||| 2 ^ u < 2 ^ n := Nat.or_lt_two_pow hb h1
  refine ⟨b ||| 2 ^ u, h3, ?_, fun i => by rw [Nat.testBit_or, Nat.testBit_two_pow]⟩
  show IntKind.i64.wrap ((BitVec.ofInt 64 (b : Int) ||| BitVec.ofInt 64 ((2 ^ u : Nat) : Int)).toNat : Int) = _
  rw [BitVec.toNat_or, ofInt_i64 b (by omega), ofInt_i64 (2 ^ u) (by omega)]
  generalize b ||| 2 ^ u = c at h3 ⊢
  exact IntWalk.i64_in _ (by omega)
theorem and_clear {n u b : Nat} (hu : u < n) (hn : n ≤ 12) (hb : b < 2 ^ n) : ∃ c : Nat, c < 2 ^ n ∧ bits .andNot .i64 (b : Int) ((2 ^ u : Nat) : Int) = (c : Int) ∧ ∀ i, i < 64 → c.testBit i = (b.testBit i && !decide (u = i)) := by
  obtain ⟨h1, h2⟩ := pow_small hu hn
  have e1 := ofInt_i64 b (by omega)
  have e2 := ofInt_i64 (2 ^ u) (by omega)
  have h3 : (BitVec.ofInt 64 (b : Int) &&& ~~~ BitVec.ofInt 64 ((2 ^ u : Nat) : Int)).toNat ≤ b := by
    rw [BitVec.toNat_and, e1]; exact Nat.and_le_left
  refine ⟨(BitVec.ofInt 64 (b : Int) &&& ~~~ BitVec.ofInt 64 ((2 ^ u : Nat) : Int)).toNat, by omega, ?_, fun i hi => ?_⟩
  · show IntKind.i64.wrap ((BitVec.ofInt 64 (b : Int) &&& ~~~ BitVec.ofInt 64 ((2 ^ u : Nat) : Int)).toNat : Int) = _
    generalize (BitVec.ofInt 64 (b : Int) &&& ~~~ BitVec.ofInt 64 ((2 ^ u : Nat) : Int)).toNat = c at h3 ⊢
    exact IntWalk.i64_in _ (by omega)
  · rw [BitVec.testBit_toNat, BitVec.getLsbD_and, BitVec.getLsbD_not, ← BitVec.testBit_toNat, ← BitVec.testBit_toNat, e1, e2, Nat.testBit_two_pow]
    simp [hi]
theorem mono_bits {n u b c : Nat} (hc : ∀ i, c.testBit i = (b.testBit i || decide (u = i))) : ∀ x : Int, 1 ≤ x → x ≤ n → bitG b x = true → bitG c x = true := fun x _ _ h => by
  unfold bitG at h ⊢
  rw [hc, h]; rfl
theorem bitV_at {u : Nat} {x : Int} (h : 1 ≤ x) : decide (u = (x - 1).toNat) = decide (x = (u : Int) + 1) := by
  by_cases e : x = (u : Int) + 1
  · rw [decide_eq_true e, decide_eq_true (by omega)]
  · rw [decide_eq_false e, decide_eq_false (by omega)]
theorem clear_bits {n u b c : Nat} (hn : n ≤ 12) (hc : ∀ i, i < 64 → c.testBit i = (b.testBit i && !decide (u = i))) : ∀ x : Int, 1 ≤ x → x ≤ n → bitG c x = if x = (u : Int) + 1 then false else bitG b x := fun x h1 h2 => by
  unfold bitG
  rw [hc _ (by omega), bitV_at h1]
  by_cases e : x = (u : Int) + 1 <;> simp [e]
theorem set_bits {n u b c d : Nat} (hn : n ≤ 12) (hc : ∀ i, i < 64 → c.testBit i = (b.testBit i && !decide (u = i))) (hd : ∀ i, d.testBit i = (c.testBit i || decide (u = i))) : ∀ x : Int, 1 ≤ x → x ≤ n → bitG d x = if x = (u : Int) + 1 then true else bitG b x := fun x h1 h2 => by
  unfold bitG
  rw [hd, hc _ (by omega), bitV_at h1]
  by_cases e : x = (u : Int) + 1 <;> simp [e]
theorem GOut.both {w w' : World} {ok : Bool} {gs : List Gt} {e : Ending} (h : GOut w ok gs e w') (hok : ok = true → ∀ x ∈ gs, gtOk x) :
    ∃ A c, e = .returned (.tuple #[.slice A (if ok then gs else []).length c, .bool ok]) ∧ GtAt w' A (if ok then gs else []) ∧ Below w.heap.size w w' := by
  obtain ⟨v, rfl, S⟩ := h
  obtain ⟨A, c, rfl, hG⟩ := gt_own (S.own (i := 0) rfl) (fun x hx => by
    cases ok
    · cases hx
    · exact hok rfl x hx)
  exact ⟨A, c, rfl, hG, S.below⟩
/-- The variables told are some gates' variables. -/
theorem varsG_no {v : Int} {val : Bool} {gs : List Gt} {vars : Int} (h : circB vars gs = true) : (varsG (restG v val gs)).contains v = false := by
  have hr := rest_circ (v := v) (val := val) h
  obtain ⟨-, -, hp, -, hg⟩ := circ_vars hr
  have hN := need_needs hg hp
  rw [Bool.eq_false_iff]
  intro hc
  have hm := List.contains_iff_mem.1 hc
  unfold varsG at hm
  have h2 := List.mem_mergeSort.1 (compactI_mem.1 hm)
  exact varsT_no (v := v) (val := val) (gs := gs) (l := needL (restG v val gs)) (fun i hi => by have := hN.1.lt i hi; rwa [restG_len] at this) h2
end Go.Proofs.Ytkhopkonddgicaa
