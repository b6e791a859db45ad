/- Lemmas and contracts for a law, put together out of several texts: CuB CuE CuF CuG CuH CuI PnN. -/
import Derived.Test.YtahbepajeplcmaaGreatMg8
import Derived.Test.YtahbepajeplcmaaGreatMg6
import Derived.Test.YtahbepajeplcmaaGreatMg9
import Derived.Test.YtahbepajeplcmaaGreatMg4
import Derived.Test.YtahbepajeplcmaaGreatMg7
import Derived.Test.YtahbepajeplcmaaGreatMg2
import Derived.Test.YtahbepajeplcmaaGreatMg3
/- Contract: all clauses over some variables, in the program. Printed by gen_cub.py. -/
namespace Go.Proofs.YtahbepajeplcmaaGreat
open Go.RowKit

theorem Sp.poolX_in {w0 w : World} {ps : List Asn} {K : List (Value × List Int)} {v : Value} {xs : List Int} (h : Sp w0 w (Own 3 1 v xs.length (xs.map (.int .i64)) :: Pool K :: ps)) (hI : ∀ x ∈ xs, I64 x) : Sp w0 w (Pool ((v, xs) :: K) :: ps) :=
  h.merge fun F1 F2 h1 h2 => by
    obtain ⟨rfl, ho⟩ := h1
    obtain ⟨G, hr, hG, -⟩ := Ty.row_of_owns ho rfl (by decide) (Ty.all_int hI)
    have hG2 : ∀ b ∈ G, b ∈ v.ownBlock.toList := by
      rcases hG with rfl | ⟨g, _, _, e, rfl⟩
      · simp
      · intro b hb
        rw [List.mem_singleton.1 hb, e]; simp
    refine ⟨fun b hb => ?_, fun q hq => ?_⟩
    · rcases List.mem_append.1 hb with hb | hb
      · exact owns_lt ho (by simpa using hb)
      · exact h2.1 b hb
    · rcases List.mem_cons.1 hq with rfl | hq
      · exact ⟨G, Ty.row_down hr, fun b hb => List.mem_append.2 (.inl (hG2 b hb))⟩
      · obtain ⟨H, h3, h4⟩ := h2.2 q hq
        exact ⟨H, h3, fun b hb => List.mem_append.2 (.inr (h4 b hb))⟩
theorem Sp.poolX_nil {w0 w : World} {ps : List Asn} (h : Sp w0 w ps) : Sp w0 w (Pool [] :: ps) := h.pool_nil
theorem Sp.poolX_empty {w0 w : World} {ps : List Asn} {K : List (Value × List Int)} (h : Sp w0 w (Pool K :: ps)) : Sp w0 w (Pool ((.slice none 0 0, []) :: K) :: ps) := by
  obtain ⟨h1, G, ⟨F1, G1, rfl, d1, p1, h5⟩, h3⟩ := h
  refine ⟨h1, F1 ++ G1, ⟨F1, G1, rfl, d1, ⟨p1.1, fun q hq => ?_⟩, h5⟩, h3⟩
  rcases List.mem_cons.1 hq with rfl | hq
  · exact ⟨[], Ty.row_nil _ _ _ _ _ (by decide), by simp⟩
  · exact p1.2 q hq
theorem Sp.poolX_at {w0 w : World} {ps : List Asn} {i : Nat} {K : List (Value × List Int)} (h : Sp w0 w ps) (hi : ps[i]? = some (Pool K)) : ∀ q ∈ K, IOf w q := fun q hq => by
  obtain ⟨G, hr⟩ := h.pool_at hi hq
  obtain ⟨A, c, e, h1⟩ := Go.Proofs.YtahbepajeplcmaaGreat.ints_row hr
  exact ⟨A, c, e, h1⟩

/-- What signings holds: the clauses of now, and the next ones. -/
def SgPostG (L : List Int) (n : Nat) (w : World) (e : Ending) (w' : World) : Prop := ∃ (B : Option Addr) (c : Nat) (ks K : List (Value × List Int)), e = .returned (.slice B ks.length c) ∧ ks.map Prod.snd = sgnG L n ∧ (∀ q ∈ ks, q ∈ K) ∧ Sp w w' [SRow (.slice B ks.length c) ks, Pool K]

set_option maxRecDepth 100000 in
set_option maxHeartbeats 16000000 in
theorem signingsG_any (L : List Int) (n : Nat) (hL : L.length = n) (hp : ∀ x ∈ L, 1 ≤ x ∧ x ≤ 12) (hn : n ≤ 6) (A : Option Addr) (cap : Nat) (w : World) (hx : IntsAt w A L) :
    Calls Tryz.prog 66 #[.slice A n cap] w (SgPostG L n w) := by
  obtain ⟨i0, hi0, hz0, hz1, hz2⟩ := info_parts infoInt
  obtain ⟨i1, hi1, hy0, hy1, hy2⟩ := info_parts infoRow
  have S0 : Hid (Sp w (w.alloc (.cells #[.slice none 0 0] 35)) [Own 35 1 (.slice (some ⟨w.heap.size, 0, none⟩) 1 1) 1 [.slice none 0 0], Pool [(.slice none 0 0, [])]]) :=
    (((Sp.start w).poolX_nil).poolX_empty).own_new (bal (bb _) _) ⟨by simp, .inr ⟨w.heap.size, 1, #[.slice none 0 0], rfl, Nat.zero_le _, heap_alloc_new w _, Nat.le_refl _, by decide, by simp, by simp⟩⟩ (fun g hg => by
      have : w.heap.size = g := by simpa [Value.ownBlock] using hg
      omega)
  have hX := Lib.hid hx
  have hpH := Lib.hid hp
  have hLH := Lib.hid hL
  have hget : Hid (∀ v (h : v < L.length), L.getD v 0 = L[v]) := fun v h => by rw [List.getD_eq_getElem?_getD, List.getElem?_eq_getElem h]; rfl
  clear hx hp hL
  go_enter Tryz.func66, Tryz.ntmps66
  go_wp2_with fail
  go_loopw [3, 12] (fun ov i wr => ∃ (v m : Nat) (B : Option Addr) (c : Nat) (ks K : List (Value × List Int)), v ≤ n ∧ i = .int .i64 v ∧ ov = .slice B m c ∧ m ≤ 64 ∧ Hid (ks.length = m) ∧ Hid (ks.map Prod.snd = sgnG L v) ∧ Hid (∀ q ∈ ks, q ∈ K) ∧ Hid (Sp w wr [Own 35 1 (.slice B m c) m (ks.map Prod.fst), Pool K])) (fun _ i _ => n - (intOf i).toNat)
  case atStart => exact ⟨0, 1, _, 1, [(.slice none 0 0, [])], _, Nat.zero_le _, rfl, rfl, by decide, rfl, rfl, Lib.hid (fun q h => h), S0⟩
  case round =>
    clear S0
    obtain ⟨v, m, B, c, ks, K, hv, rfl, rfl, hm64, hkm, hks, hsub, HS⟩ := hrel
    by_cases hlt : v < n
    · obtain ⟨b, off, rfl, m0⟩ := (hX.out.grow HS.out.below).at_ v (by rw [hLH.out]; exact hlt)
      have hvi : (v : Int) < n := by omega
      have hm2 : Hid (m = 2 ^ v) := by unfold Hid; rw [← hkm.out, ← sgnG_len, ← hks.out, List.length_map]
      have hm32 : m ≤ 32 := by
        have : 2 ^ v ≤ 2 ^ 5 := Nat.pow_le_pow_right (by decide) (by omega)
        rw [hm2.out]; omega
      have S1 := Lib.hid (HS.out.own_nil 35 1)
      have hvL : v < L.length := by rw [hLH.out]; exact hlt
      have hxb := hpH.out _ (List.getElem_mem hvL)
      have hx := hget.out v hvL
      obtain ⟨x, hx2⟩ : ∃ x, L[v] = x := ⟨_, rfl⟩
      rw [hx2] at m0 hxb hx
      replace hx2 := Lib.hid hx2
      replace hvL := Lib.hid hvL
      have hw : IntKind.i64.wrap (-x) = -x := IntWalk.i64_in _ (by omega)
      replace hx := Lib.hid hx
      clear HS
      go_wp2_with fail
      go_loopw [6, 18] (fun ov i wr => ∃ (j q : Nat) (D : Option Addr) (d : Nat) (ns K : List (Value × List Int)), j ≤ m ∧ i = .int .i64 j ∧ ov = .slice D q d ∧ q = 2 * j ∧ Hid (ns.length = q) ∧ Hid (ns.map Prod.snd = sgnH L v j) ∧ Hid (∀ p ∈ ns, p ∈ K) ∧ Hid (∀ p ∈ ks, p ∈ K) ∧ Hid (Sp w wr [Pool K, Own 35 1 (.slice D q d) q (ns.map Prod.fst), Own 35 1 (.slice B m c) m (ks.map Prod.fst)])) (fun _ i _ => m - (intOf i).toNat)
      case atStart => exact ⟨0, 0, none, 0, [], K, Nat.zero_le _, rfl, rfl, rfl, rfl, rfl, Lib.hid (fun p hp => by cases hp), hsub, S1.out.pick [2, 0, 0] rfl⟩
      case round =>
        clear S1 hsub
        obtain ⟨j, q, D, d, ns, K, hj, rfl, rfl, hqj, hnq, hns, hsubn, hsubk, HS⟩ := hrel
        have hq64 : q ≤ 64 := by omega
        replace hqj := Lib.hid hqj
        by_cases hlt2 : j < m
        · have hjk : j < ks.length := by rw [hkm.out]; exact hlt2
          have hji : (j : Int) < m := by omega
          have hown := HS.out.own (i := 2) rfl
          obtain ⟨go, capo, curo, e2, -, hh, -, -, -, ht⟩ := own_block hown (by omega)
          cases e2
          have p0 := (own_at hh ht (o := j) (by omega)).1
          have hmem := hsubk.out ks[j] (List.getElem_mem hjk)
          obtain ⟨E, ec, eE, -⟩ := HS.out.poolX_at (i := 0) rfl _ hmem
          have hrow : ks[j].2 = rowG L v j := by
            have : (ks.map Prod.snd)[j]? = (sgnG L v)[j]? := by rw [hks.out]
            rw [List.getElem?_map, List.getElem?_eq_getElem hjk, List.getElem?_eq_getElem (by rw [sgnG_len, ← hm2.out]; exact hlt2), sgnG_get] at this
            exact Option.some.inj this
          have hrl := rowG_len L v j
          rw [List.getElem?_map, List.getElem?_eq_getElem hjk, Option.map_some, eE, hrow, hrl] at p0
          have hsel : Hid (∀ W, (∀ p ∈ K, IOf W p) → IntsAt W E (rowG L v j)) := fun W h => by
            obtain ⟨A', c', e', h'⟩ := h _ hmem
            rw [eE] at e'
            cases e'
            rw [hrow] at h'
            exact h'
          have hns2 : Hid (sgnH L v (j + 1) = sgnH L v j ++ [rowG L v j ++ [x], rowG L v j ++ [-x]]) := by unfold Hid; rw [sgnH_succ, hx.out]
          have hok : Hid (∀ y ∈ rowG L v j, I64 y) := fun y hy => by have := rowG_ok hpH.out v j y hy; unfold I64; omega
          clear hown hh ht hmem eE hrow curo
          generalize hR : rowG L v j = R at *
          clear hR
          have hcl := Lib.hid (fun W h => cloneD_any E ec R W (hsel.out W h) (by omega))
          rw [hrl] at hcl
          have hrlH := Lib.hid hrl
          clear hrl hsel
          go_wp2_with fail
          refine (hcl.out _ (HS.out.poolX_at (i := 0) rfl)).mono ?_
          rintro e w2 ⟨E2, f2, rfl, U⟩
          have T2 := (HS.out.seq U).alloc_box #[.int .i64 x] 3
          have k0 := T2.cell (i := 0) rfl (o := 0) rfl
          replace T2 := Lib.hid T2
          clear HS U
          go_wp2_with (at_builtin; refine wpList_append_src rfl _ _ rfl Tryz.underlying35 hi0 hz0 hz1 hz2 rfl (by decide) _ v _ rfl (T2.out.own (i := 1) rfl) _ 1 1 [.int .i64 x] rfl (Src.one k0) (by simp [Value.oneCell']) ?c3 ?c4 ?_)
          case c3 => unfold maxLen; omega
          case c4 => omega
          intro vE wE hownE hgE hatE
          have T3 := T2.out.own_push (i := 1) rfl (bb _) hownE hgE (by simpa using hatE)
          obtain ⟨E3, f3, rfl⟩ := own_slice hownE
          have T4 := Lib.hid (T3.pick [1, 1, 1, 1] rfl)
          clear T2 T3 k0 hownE hgE hatE
          go_wp2_with fail
          refine (hcl.out _ (T4.out.poolX_at (i := 1) rfl)).mono ?_
          rintro e w4 ⟨E4, f4, rfl, U⟩
          have T6 := (T4.out.seq U).alloc_box #[.int .i64 (-x)] 3
          have k0 := T6.cell (i := 0) rfl (o := 0) rfl
          replace T6 := Lib.hid T6
          clear T4 U hcl
          go_wp2_with (at_builtin; refine wpList_append_src rfl _ _ rfl Tryz.underlying35 hi0 hz0 hz1 hz2 rfl (by decide) _ v _ rfl (T6.out.own (i := 1) rfl) _ 1 1 [.int .i64 (-x)] rfl (Src.one k0) (by simp [Value.oneCell']) ?c5 ?c6 ?_)
          case c5 => unfold maxLen; omega
          case c6 => omega
          intro vF wF hownF hgF hatF
          have T7 := T6.out.own_push (i := 1) rfl (bb _) hownF hgF (by simpa using hatF)
          obtain ⟨E7, f7, rfl⟩ := own_slice hownF
          have T8 := (T7.pick [1, 1, 1, 1, 1] rfl).alloc_box #[.slice E3 (v + 1) f3, .slice E7 (v + 1) f7] 35
          have k0 := T8.cell (i := 0) rfl (o := 0) rfl
          have k1 := T8.cell (i := 0) rfl (o := 1) rfl
          replace T8 := Lib.hid T8
          clear T6 T7 hownF hgF hatF
          go_wp2_with (at_builtin; refine wpList_append_src rfl _ _ rfl Tryz.underlying26 hi1 hy0 hy1 hy2 rfl (by decide) _ q _ rfl (T8.out.own (i := 4) rfl) _ 2 2 [.slice E3 (v + 1) f3, .slice E7 (v + 1) f7] rfl (Src.two k0 k1) (by simp [Value.oneCell']) ?c7 ?c8 ?_)
          case c7 => unfold maxLen; omega
          case c8 => omega
          intro vG wG hownG hgG hatG
          have T9 := T8.out.own_push (i := 4) rfl (bb _) hownG hgG (by simpa using hatG)
          obtain ⟨E9, f9, rfl⟩ := own_slice hownG
          have hl1 : v + 1 = (R ++ [x]).length := by rw [List.length_append, hrlH.out]; rfl
          have hl2 : v + 1 = (R ++ [-x]).length := by rw [List.length_append, hrlH.out]; rfl
          have hm1 : R.map (Value.int .i64) ++ [.int .i64 x] = (R ++ [x]).map (.int .i64) := by simp
          have hm3 : R.map (Value.int .i64) ++ [.int .i64 (-x)] = (R ++ [-x]).map (.int .i64) := by simp
          have hok1 : ∀ y ∈ R ++ [x], I64 y := fun y hy => by
            rcases List.mem_append.1 hy with h | h
            · exact hok.out y h
            · rw [List.mem_singleton.1 h]; unfold I64; omega
          have hok2 : ∀ y ∈ R ++ [-x], I64 y := fun y hy => by
            rcases List.mem_append.1 hy with h | h
            · exact hok.out y h
            · rw [List.mem_singleton.1 h]; unfold I64; omega
          have TA : Sp w wG [Own 3 1 (.slice E3 (v + 1) f3) (R ++ [x]).length ((R ++ [x]).map (.int .i64)), Pool K, Own 3 1 (.slice E7 (v + 1) f7) (R ++ [-x]).length ((R ++ [-x]).map (.int .i64)), Own 35 1 (.slice E9 (q + 2) f9) (q + 2) (ns.map Prod.fst ++ [.slice E3 (v + 1) f3, .slice E7 (v + 1) f7]), Own 35 1 (.slice (some ⟨go, 0, none⟩) m c) m (ks.map Prod.fst)] := by
            rw [← hl1, ← hl2, ← hm1, ← hm3]
            exact T9.pick [2, 2, 1, 1, 1] rfl
          have TB := (TA.poolX_in hok1).swap.poolX_in hok2
          have hns3 : Hid ((ns ++ [(Value.slice E3 (v + 1) f3, R ++ [x]), (Value.slice E7 (v + 1) f7, R ++ [-x])]).map Prod.snd = sgnH L v (j + 1)) := by unfold Hid; rw [hns2.out, List.map_append, hns.out]; rfl
          have hnl : Hid ((ns ++ [(Value.slice E3 (v + 1) f3, R ++ [x]), (Value.slice E7 (v + 1) f7, R ++ [-x])]).length = q + 2) := by unfold Hid; rw [List.length_append, hnq.out]; rfl
          have hsn : Hid (∀ p ∈ ns ++ [(Value.slice E3 (v + 1) f3, R ++ [x]), (Value.slice E7 (v + 1) f7, R ++ [-x])], p ∈ (Value.slice E7 (v + 1) f7, R ++ [-x]) :: (Value.slice E3 (v + 1) f3, R ++ [x]) :: K) := fun p hp => by
            rcases List.mem_append.1 hp with h | h
            · exact List.mem_cons_of_mem _ (List.mem_cons_of_mem _ (hsubn.out p h))
            · simp only [List.mem_cons, List.mem_nil_iff, or_false] at h
              rcases h with rfl | rfl <;> simp
          have hsk : Hid (∀ p ∈ ks, p ∈ (Value.slice E7 (v + 1) f7, R ++ [-x]) :: (Value.slice E3 (v + 1) f3, R ++ [x]) :: K) := fun p hp => List.mem_cons_of_mem _ (List.mem_cons_of_mem _ (hsubk.out p hp))
          have hfs : ns.map Prod.fst ++ [.slice E3 (v + 1) f3, .slice E7 (v + 1) f7] = (ns ++ [(Value.slice E3 (v + 1) f3, R ++ [x]), (Value.slice E7 (v + 1) f7, R ++ [-x])]).map Prod.fst := by simp
          rw [hfs] at TB
          have hq2 : q + 2 = 2 * (j + 1) := by have := hqj.out; omega
          generalize ns ++ [(Value.slice E3 (v + 1) f3, R ++ [x]), (Value.slice E7 (v + 1) f7, R ++ [-x])] = ns2 at *
          generalize (Value.slice E7 (v + 1) f7, R ++ [-x]) :: (Value.slice E3 (v + 1) f3, R ++ [x]) :: K = K2 at *
          replace TB := Lib.hid TB
          replace hq2 := Lib.hid hq2
          clear T8 T9 TA k0 k1 hownG hgG hatG hl1 hl2 hm1 hm3 hok1 hok2 hfs hns hns2 hnq hsubn hsubk
          go_wp2_with fail
          go_roundw
          case rel => exact ⟨j + 1, q + 2, E9, f9, ns2, K2, by omega, by go_num, rfl, hq2.out, hnl, hns3, hsn, hsk, TB⟩
          case measure => simp [intOf]; omega
        · obtain rfl : j = m := by omega
          have hTT := Lib.hid (HS.out.pick [1, 0] rfl)
          have hnn : Hid (ns.map Prod.snd = sgnG L (v + 1)) := by unfold Hid; rw [hns.out, hm2.out, sgnH_all]
          have hq2 := hqj.out
          have hq64b : q ≤ 64 := by omega
          clear HS hns hq2
          go_wp2_with fail
          go_roundw
          case rel => exact ⟨v + 1, q, D, d, ns, K, by omega, by go_num, rfl, hq64b, hnq, hnn, hsubn, hTT⟩
          case measure => simp [intOf]; omega
    · obtain rfl : v = n := by omega
      go_wp2_with fail
      go_ret
      refine ⟨B, c, ks, K, by rw [hkm.out]; rfl, hks.out, hsub.out, ?_⟩
      unfold SRow
      rw [hkm.out]
      exact HS.out
end Go.Proofs.YtahbepajeplcmaaGreat

/- Contract: the clauses of a parity, in the program. Printed by gen_cue.py. -/
namespace Go.Proofs.YtahbepajeplcmaaGreat
open Go.RowKit

set_option maxRecDepth 100000 in
set_option maxHeartbeats 16000000 in
theorem xorClauses_any (L : List Int) (odd : Bool) (hp : ∀ x ∈ L, 1 ≤ x ∧ x ≤ 12) (hn : L.length ≤ 5) (A : Option Addr) (cap : Nat) (w : World) (hx : IntsAt w A L) :
    Calls Tryz.prog 45 #[.slice A L.length cap, .bool odd] w fun e w' => ∃ (D : Option Addr) (d : Nat) (ns K : List (Value × List Int)), e = .returned (.slice D ns.length d) ∧ ns.map Prod.snd = xorL L odd ∧ (∀ p ∈ ns, p ∈ K) ∧ Sp w w' [Cls (.slice D ns.length d) ns, Pool K] := by
  obtain ⟨i1, hi1, hy0, hy1, hy2⟩ := info_parts infoRow
  have hsg := Lib.hid (signingsG_any L L.length rfl hp (by omega) A cap w hx)
  have hall := Lib.hid (xorK_all L odd)
  have hgl : Hid (∀ c, c < 2 ^ L.length → (sgnG L L.length)[c]? = some (rowG L L.length c)) := fun c hc => by unfold sgnG; rw [List.getElem?_map, List.getElem?_range hc]; rfl
  have hpow : 2 ^ L.length ≤ 32 := Nat.pow_le_pow_right (by decide) hn
  have hrl := Lib.hid (rowG_len L L.length)
  have hrok := Lib.hid (rowG_ok hp L.length)
  obtain ⟨n, hnn⟩ : ∃ n, L.length = n := ⟨_, rfl⟩
  rw [hnn] at hsg hpow hn hgl hall hrl hrok
  rw [hnn]
  replace hnn := Lib.hid hnn
  clear hx hp
  go_enter Tryz.func45, Tryz.ntmps45
  go_wp2_with fail
  refine hsg.out.mono ?_
  rintro e w1 ⟨B, c, ks, K, rfl, hks, hsub, T⟩
  obtain ⟨m, hm⟩ : ∃ m, ks.length = m := ⟨_, rfl⟩
  have hm2 : m = 2 ^ n := by rw [← hm, ← sgnG_len L n, ← hks, List.length_map]
  have hm32 : m ≤ 32 := by omega
  have S1 : Hid (Sp w w1 [Own 35 1 (.slice none 0 0) 0 [], Own 35 1 (.slice B m c) m (ks.map Prod.fst), Pool K]) := by
    have h := T.own_nil 35 1
    unfold SRow at h
    rw [hm] at h
    exact h
  rw [← hm2] at hall hgl
  rw [hm]
  replace hm := Lib.hid hm
  replace hm2 := Lib.hid hm2
  replace hks := Lib.hid hks
  replace hsub := Lib.hid hsub
  clear T hsg hpow
  go_wp2_with fail
  go_loopw [5, 14] (fun v5 v14 wr => ∃ (i q : Nat) (D : Option Addr) (d : Nat) (ns : List (Value × List Int)), i ≤ m ∧ v14 = .int .i64 i ∧ v5 = .slice D q d ∧ q ≤ i ∧ Hid (ns.length = q) ∧ Hid (ns.map Prod.snd = xorK L odd i) ∧ Hid (∀ p ∈ ns, p ∈ K) ∧ Hid (Sp w wr [Own 35 1 (.slice D q d) q (ns.map Prod.fst), Own 35 1 (.slice B m c) m (ks.map Prod.fst), Pool K])) (fun _ v14 _ => m - (intOf v14).toNat)
  case atStart => exact ⟨0, 0, none, 0, [], Nat.zero_le _, rfl, rfl, Nat.le_refl _, rfl, rfl, Lib.hid (fun p hp => by cases hp), S1⟩
  case round =>
    clear S1
    obtain ⟨i, q, D, d, ns, hi, rfl, rfl, hqi, hnq, hns, hsubn, HS⟩ := hrel
    by_cases hlt : i < m
    · have hik : i < ks.length := by rw [hm.out]; exact hlt
      have hown := HS.out.own (i := 1) rfl
      obtain ⟨go, capo, curo, e2, -, hh, -, -, -, ht⟩ := own_block hown (by omega)
      cases e2
      have p0 := (own_at hh ht (o := i) (by omega)).1
      have hmem := hsub.out ks[i] (List.getElem_mem hik)
      obtain ⟨E, ec, eE, hIE⟩ := HS.out.poolX_at (i := 2) rfl _ hmem
      have hrow : ks[i].2 = rowG L n i := by
        have h1 : (ks.map Prod.snd)[i]? = (sgnG L n)[i]? := by rw [hks.out]
        rw [List.getElem?_map, List.getElem?_eq_getElem hik, hgl.out i hlt] at h1
        exact Option.some.inj h1
      have hlr := hrl.out i
      rw [hrow] at eE hIE
      rw [List.getElem?_map, List.getElem?_eq_getElem hik, Option.map_some, eE, hlr] at p0
      have hki : Hid (ks[i].1 = .slice E n ec ∧ ks[i].2 = rowG L n i ∧ ks[i] ∈ K) := ⟨by rw [eE, hlr], hrow, hmem⟩
      have hstep := xorK_succ L odd i
      rw [hnn.out] at hstep
      replace hstep := Lib.hid hstep
      have hng := Lib.hid (fun k (h : k < (rowG L n i).length) => ngC_take h)
      have hngl := ngC_le (rowG L n i)
      rw [hlr] at hngl
      have hR12 := Lib.hid (hrok.out i)
      have hIH := Lib.hid hIE
      obtain ⟨ki, hkie⟩ : ∃ ki, ks[i] = ki := ⟨_, rfl⟩
      rw [hkie] at hki
      obtain ⟨R, hR⟩ : ∃ R, rowG L n i = R := ⟨_, rfl⟩
      rw [hR] at hki hstep hng hngl hR12 hIH hlr
      have hlrH := Lib.hid hlr
      clear hown hh ht hmem eE hIE hrow curo hkie hR hlr hik
      go_wp2_with fail
      go_loopw [8, 10, 20] (fun v8 _ v20 wz => ∃ k : Nat, k ≤ n ∧ v20 = .int .i64 k ∧ v8 = .int .i64 (ngC (R.take k)) ∧ wz = wr) (fun _ _ v20 _ => n - (intOf v20).toNat)
      case atStart => exact ⟨0, Nat.zero_le _, rfl, rfl, rfl⟩
      case round =>
        obtain ⟨k, hk, rfl, rfl, rfl⟩ := hrel
        by_cases hk2 : k < n
        · have hkR : k < R.length := by rw [hlrH.out]; exact hk2
          obtain ⟨xb, xo, rfl, x0⟩ := hIH.out.at_ k hkR
          have h12 := hR12.out _ (List.getElem_mem hkR)
          have hnk := hng.out k hkR
          have hb : ngC (R.take k) ≤ 5 := Nat.le_trans (ngC_le _) (by rw [List.length_take]; omega)
          obtain ⟨g, hg⟩ : ∃ g, ngC (R.take k) = g := ⟨_, rfl⟩
          rw [hg] at hnk hb ⊢
          generalize R[k] = x at *
          have hw : IntKind.i64.wrap ((g : Int) + 1) = ((g + 1 : Nat) : Int) := by rw [IntWalk.i64_in _ (by omega)]; rfl
          by_cases hneg : x < 0
          · have hnk2 : Hid (ngC (R.take (k + 1)) = g + 1) := by unfold Hid; rw [hnk, if_pos hneg]
            clear hnk hg
            go_wp2_with fail
            go_roundw
            case rel => exact ⟨k + 1, by omega, by go_num, by rw [hnk2.out]; first | rfl | go_num, by trivial⟩
            case measure => simp [intOf]; omega
          · have hnk2 : Hid (ngC (R.take (k + 1)) = g) := by unfold Hid; rw [hnk, if_neg hneg]; rfl
            clear hnk hg
            go_wp2_with fail
            go_roundw
            case rel => exact ⟨k + 1, by omega, by go_num, by rw [hnk2.out], by trivial⟩
            case measure => simp [intOf]; omega
        · obtain rfl : n = k := by omega
          have htk : R.take n = R := List.take_of_length_le (by rw [hlrH.out]; exact Nat.le_refl _)
          rw [htk]
          generalize hgg : ngC R = g at *
          clear hgg htk hng hR12
          have hg5 : g ≤ 5 := by omega
          have hcast : (((g : Int) % 2 == 0) == odd) = ((g % 2 == 0) == odd) := by
            congr 1
            rw [Bool.eq_iff_iff, beq_iff_eq, beq_iff_eq]
            omega
          cases hb : ((g % 2 == 0) == odd)
          · have hgI : (((g : Int) % 2 == 0) == odd) = false := hcast.trans hb
            replace hb := Lib.hid hb
            clear hcast
            have hx2 : Hid (ns.map Prod.snd = xorK L odd (i + 1)) := by unfold Hid; rw [hstep.out, hns.out]; exact (if_neg (by rw [hb.out]; decide)).symm
            replace hgI := Lib.hid hgI
            go_upto_if 33 with fail
            rw [hgI.out]
            clear hstep hgI hns
            go_wp2_with fail
            go_roundw
            case rel => exact ⟨i + 1, q, D, d, ns, by omega, by go_num, rfl, by omega, hnq, hx2, hsubn, HS⟩
            case measure => simp [intOf]; omega
          · have hgI : (((g : Int) % 2 == 0) == odd) = true := hcast.trans hb
            replace hb := Lib.hid hb
            clear hcast
            have hx2 : Hid (xorK L odd (i + 1) = xorK L odd i ++ [R]) := by unfold Hid; rw [hstep.out]; exact if_pos hb.out
            have T1 := HS.out.alloc_box #[.slice E n ec] 35
            have k0 := T1.cell (i := 0) rfl (o := 0) rfl
            replace T1 := Lib.hid T1
            replace hgI := Lib.hid hgI
            clear HS hstep
            go_upto_if 33 with fail
            rw [hgI.out]
            clear hgI
            go_wp2_with (at_builtin; refine wpList_append_src rfl _ _ rfl Tryz.underlying26 hi1 hy0 hy1 hy2 rfl (by decide) _ q _ rfl (T1.out.own (i := 1) rfl) _ 1 1 [.slice E n ec] rfl (Src.one k0) (by simp [Value.oneCell']) ?c3 ?c4 ?_)
            case c3 => unfold maxLen; omega
            case c4 => omega
            intro vE wE hownE hgE hatE
            have T2 := (T1.out.own_push (i := 1) rfl (bb _) hownE hgE (by simpa using hatE)).tail
            obtain ⟨aE, cE, rfl⟩ := own_slice hownE
            simp only [List.set_cons_zero, List.set_cons_succ] at T2
            have hfs : ns.map Prod.fst ++ [.slice E n ec] = (ns ++ [ki]).map Prod.fst := by rw [List.map_append, List.map_cons, List.map_nil, hki.out.1]
            rw [hfs] at T2
            replace T2 := Lib.hid T2
            have hns2 : Hid ((ns ++ [ki]).map Prod.snd = xorK L odd (i + 1)) := by unfold Hid; rw [List.map_append, hns.out, hx2.out, List.map_cons, List.map_nil, hki.out.2.1]
            have hnl : Hid ((ns ++ [ki]).length = q + 1) := by unfold Hid; rw [List.length_append, hnq.out]; rfl
            have hsn : Hid (∀ p ∈ ns ++ [ki], p ∈ K) := fun p hp => by
              rcases List.mem_append.1 hp with h | h
              · exact hsubn.out p h
              · rw [List.mem_singleton.1 h]; exact hki.out.2.2
            generalize ns ++ [ki] = ns2 at *
            clear T1 k0 hownE hgE hatE hfs hns hx2 hnq hsubn
            go_wp2_with fail
            go_roundw
            case rel => exact ⟨i + 1, q + 1, aE, cE, ns2, by omega, by go_num, rfl, by omega, hnl, hns2, hsn, T2⟩
            case measure => simp [intOf]; omega
    · obtain rfl : i = m := by omega
      have hfin : Hid (ns.map Prod.snd = xorL L odd) := by unfold Hid; rw [hns.out, hall.out]
      go_wp2_with fail
      go_ret
      refine ⟨D, d, ns, K, by rw [hnq.out]; rfl, hfin.out, hsubn.out, ?_⟩
      unfold Cls
      rw [hnq.out]
      exact Sp.pick [0, 1] HS.out rfl
end Go.Proofs.YtahbepajeplcmaaGreat

/- Contract: numbers in ascending order between two bounds, in the reference. Printed by gen_cuf.py. -/
namespace Go.Proofs.YtahbepajeplcmaaGreat
open Go.RowKit

/-- An index that fits, above the one ahead of it. -/
def rOkG (lo hi : Int) (l : List Int) (i : Nat) : Bool := inB (l.getD i 0) lo hi && (i == 0 || decide (l.getD (i - 1) 0 < l.getD i 0))
def rOkGTo (lo hi : Int) (l : List Int) (k : Nat) : Bool := (List.range k).all (rOkG lo hi l)
theorem rOkGTo_succ (lo hi : Int) (l : List Int) (k : Nat) : rOkGTo lo hi l (k + 1) = (rOkGTo lo hi l k && rOkG lo hi l k) := by simp [rOkGTo, List.range_succ]
def risG (lo hi : Int) (l : List Int) : Bool := rOkGTo lo hi l l.length
theorem risG_no {lo hi : Int} {l : List Int} {k : Nat} (hk : k < l.length) (h : rOkG lo hi l k = false) : risG lo hi l = false := by
  unfold risG rOkGTo
  rw [List.all_eq_false]
  exact ⟨k, List.mem_range.2 hk, by rw [h]; decide⟩
theorem risG_step {lo hi : Int} {l : List Int} {k : Nat} (h0 : rOkGTo lo hi l k = true) (h : rOkG lo hi l k = true) : rOkGTo lo hi l (k + 1) = true := by rw [rOkGTo_succ, h0, h]; rfl
theorem rOkG_zero (lo hi : Int) (l : List Int) (h : 0 < l.length) : rOkG lo hi l 0 = inB l[0] lo hi := by simp [rOkG, List.getD_eq_getElem?_getD, List.getElem?_eq_getElem h]
theorem rOkG_succ (lo hi : Int) (l : List Int) (k : Nat) (h : k + 1 < l.length) : rOkG lo hi l (k + 1) = (inB l[k + 1] lo hi && decide ((l[k]'(by omega)) < l[k + 1])) := by
  simp [rOkG, List.getD_eq_getElem?_getD, List.getElem?_eq_getElem h, List.getElem?_eq_getElem (show k < l.length by omega)]

set_option maxRecDepth 100000 in
set_option maxHeartbeats 4000000 in
theorem l1RisingG_any (A : Option Addr) (cap : Nat) (l : List Int) (lo hi : Int) (w : World) (hx : IntsAt w A l) (hl : l.length ≤ 1000000) :
    Calls Tryz.prog 47 #[.slice A l.length cap, .int .i64 lo, .int .i64 hi] w fun e w' => e = .returned (.bool (risG lo hi l)) ∧ Below w.heap.size w w' := by
  have hX := Lib.hid hx
  have hd : Hid (risG lo hi l = rOkGTo lo hi l l.length) := rfl
  clear hx
  go_enter Tryz.func47, Tryz.ntmps47
  go_wp2_with fail
  go_loopw [7] (fun i wr => ∃ k : Nat, k ≤ l.length ∧ i = .int .i64 k ∧ Hid (rOkGTo lo hi l k = true) ∧ Hid (Below w.heap.size w wr)) (fun i _ => l.length - (intOf i).toNat)
  case atStart => exact ⟨0, Nat.zero_le _, rfl, by simp [Hid, rOkGTo], bb _⟩
  case round =>
    obtain ⟨k, hk, rfl, HR, hB⟩ := hrel
    by_cases hlt : k < l.length
    · obtain ⟨b, off, rfl, m0⟩ := (hX.out.grow hB.out).at_ k hlt
      have k0 := cell_regrown m0
      cases hq : inB l[k] lo hi
      · have HN : Hid (risG lo hi l = false) := risG_no hlt (by unfold rOkG; rw [List.getD_eq_getElem?_getD, List.getElem?_eq_getElem hlt]; simp [hq])
        generalize l[k] = x at *
        clear m0
        go_wp2_with fail
        refine wp_region_quiet_below (by kernel_rfl) (by kernel_rfl) ?_
        repeat (any_goals (first | go_big_quiet_step ((go_at_call 26; exact Calls.regrown_of (l1InB hq _)))))
        refine wpQuiet_nil ?_
        rintro w1 ⟨p, rfl⟩
        have hB2 := Lib.hid (btr hB.out (below_regrown _ p.d p.os))
        clear hB k0
        go_wp2_with fail
        go_ret
        exact ⟨ret_bool HN.out.symm, hB2.out⟩
      rcases Nat.eq_zero_or_pos k with rfl | hpos
      · have HN : Hid (rOkGTo lo hi l (0 + 1) = true) := risG_step rfl (by rw [rOkG_zero _ _ _ hlt]; exact hq)
        rw [Nat.add_zero] at k0
        generalize l[0] = x at *
        clear HR m0
        go_wp2_with fail
        refine wp_region_quiet_below (by kernel_rfl) (by kernel_rfl) ?_
        repeat (any_goals (first | go_big_quiet_step ((go_at_call 26; exact Calls.regrown_of (l1InB hq _)))))
        refine wpQuiet_nil ?_
        rintro w1 ⟨p, rfl⟩
        have hB2 := Lib.hid (btr hB.out (below_regrown _ p.d p.os))
        clear hB k0
        go_wp2_with fail
        go_roundw
        case rel => exact ⟨0 + 1, by omega, by go_num, HN, hB2⟩
        case measure => simp [intOf]; omega
      have hj : k - 1 < l.length := by omega
      obtain ⟨b', off', e', m1⟩ := (hX.out.grow hB.out).at_ (k - 1) hj
      cases e'
      have k1 := cell_regrown m1
      have HS : rOkG lo hi l k = decide (l[k - 1] < l[k]) := by
        obtain ⟨j, rfl⟩ : ∃ j, k = j + 1 := ⟨k - 1, by omega⟩
        rw [rOkG_succ lo hi l j hlt, hq, Bool.true_and]
        rfl
      generalize l[k - 1] = y at *
      generalize l[k] = x at *
      have hg : (0 : Int) < (k : Int) := by omega
      clear m0 m1
      by_cases hc : y < x
      · have HN : Hid (rOkGTo lo hi l (k + 1) = true) := risG_step HR.out (by rw [HS]; simpa using hc)
        clear HS HR
        go_wp2_with fail
        refine wp_region_quiet_below (by kernel_rfl) (by kernel_rfl) ?_
        repeat (any_goals (first | go_big_quiet_step ((go_at_call 26; exact Calls.regrown_of (l1InB hq _)))))
        refine wpQuiet_nil ?_
        rintro w1 ⟨p, rfl⟩
        have hB2 := Lib.hid (btr hB.out (below_regrown _ p.d p.os))
        clear hB k0 k1
        go_wp2_with fail
        go_roundw
        case rel => exact ⟨k + 1, by omega, by go_num, HN, hB2⟩
        case measure => simp [intOf]; omega
      · have HN : Hid (risG lo hi l = false) := risG_no hlt (by rw [HS]; simpa using hc)
        clear HS HR
        go_wp2_with fail
        refine wp_region_quiet_below (by kernel_rfl) (by kernel_rfl) ?_
        repeat (any_goals (first | go_big_quiet_step ((go_at_call 26; exact Calls.regrown_of (l1InB hq _)))))
        refine wpQuiet_nil ?_
        rintro w1 ⟨p, rfl⟩
        have hB2 := Lib.hid (btr hB.out (below_regrown _ p.d p.os))
        clear hB k0 k1
        go_wp2_with fail
        go_ret
        exact ⟨ret_bool HN.out.symm, hB2.out⟩
    · obtain rfl : k = l.length := by omega
      have HN : Hid (risG lo hi l = true) := hd.out.trans HR.out
      go_wp2_with fail
      go_ret
      exact ⟨ret_bool HN.out.symm, hB.out⟩

end Go.Proofs.YtahbepajeplcmaaGreat

/- Contract: the parity Cnf in the program; which lists of variables are taken. Printed by gen_cug.py. -/
namespace Go.Proofs.YtahbepajeplcmaaGreat
open Go.RowKit

theorem clause_smallX {vars : Int} {c : List Int} (h : clauseB vars c = true) : ∀ l ∈ c, l ≠ 0 ∧ -12 ≤ l ∧ l ≤ 12 := by
  unfold clauseB cOkTo at h
  rw [Bool.and_eq_true, List.all_eq_true] at h
  intro l hl
  obtain ⟨i, hi, rfl⟩ := List.getElem_of_mem hl
  have h2 := h.2 i (List.mem_range.2 hi)
  unfold cOk litB at h2
  have hv := inB_true.1 h.1
  rw [Bool.and_eq_true, Bool.and_eq_true, List.getD_eq_getElem?_getD, List.getElem?_eq_getElem hi, Option.getD_some, bne_iff_ne] at h2
  have hn := inB_true.1 h2.1.1
  rw [negV_small (by unfold I64; omega) (by omega)] at hn
  exact ⟨h2.1.2, by omega, by omega⟩
theorem clause_top {vars : Int} {c : List Int} (h : clauseB vars c = true) : ∀ l ∈ c, -vars ≤ l ∧ l ≤ vars := by
  unfold clauseB cOkTo at h
  rw [Bool.and_eq_true, List.all_eq_true] at h
  intro l hl
  obtain ⟨i, hi, rfl⟩ := List.getElem_of_mem hl
  have h2 := h.2 i (List.mem_range.2 hi)
  unfold cOk litB at h2
  have hv := inB_true.1 h.1
  rw [Bool.and_eq_true, Bool.and_eq_true, List.getD_eq_getElem?_getD, List.getElem?_eq_getElem hi, Option.getD_some, bne_iff_ne] at h2
  have hn := inB_true.1 h2.1.1
  rw [negV_small (by unfold I64; omega) (by omega)] at hn
  omega
theorem clause_topN {N : Nat} {c : List Int} (h : clauseB (N : Int) c = true) : ∀ l ∈ c, l ≤ (N : Int) := fun l hl => (clause_top h l hl).2
theorem CnfR.ofR {w wF : World} {vars va : Int} {A' : Option Addr} {n' c' : Nat} {xss : List (List Int)} {B : Option Addr} {c : Nat} {F : List Nat} (hr : (Ty.slice Ty.int).row false wF (.slice B xss.length c) xss F) (hb : Below w.heap.size w wF)
    (h1 : goodB vars xss = true → va = vars ∧ A' = B ∧ n' = xss.length ∧ c' = c) (h2 : goodB vars xss = false → va = 0 ∧ A' = none ∧ n' = 0 ∧ c' = 0) :
    CnfR w (giveV vars xss) (giveL vars xss) (goodB vars xss) (.returned (.tuple #[.agg #[.int .i64 va, .slice A' n' c'], .bool (goodB vars xss)])) wF := by
  cases hg : goodB vars xss with
  | false =>
    obtain ⟨rfl, rfl, rfl, rfl⟩ := h2 hg
    rw [(give_no hg).1, (give_no hg).2]
    exact ⟨none, 0, [], rfl, Ty.row_nil _ _ _ _ _ (by decide), hb⟩
  | true =>
    obtain ⟨rfl, rfl, rfl, rfl⟩ := h1 hg
    rw [(give_yes hg).1, (give_yes hg).2]
    exact ⟨_, _, F, rfl, hr, hb⟩

/-- A list of variables, not too long. -/
def xokB (vars : Int) (L : List Int) : Bool := clauseB vars L && decide (L.length ≤ 5) && !(L.any fun v => decide (v < 0))
theorem xok_parts {vars : Int} {L : List Int} (h : xokB vars L = true) : clauseB vars L = true ∧ L.length ≤ 5 ∧ (L.any fun v => decide (v < 0)) = false ∧ (∀ x ∈ L, 1 ≤ x ∧ x ≤ 12) := by
  unfold xokB at h
  rw [Bool.and_eq_true, Bool.and_eq_true, decide_eq_true_eq, Bool.not_eq_true'] at h
  obtain ⟨⟨h1, h2⟩, h3⟩ := h
  refine ⟨h1, h2, h3, fun x hx => ?_⟩
  have h5 : 0 ≤ x := by
    have := List.any_eq_false.1 h3 x hx
    rw [decide_eq_true_eq] at this
    omega
  have h6 := clause_smallX h1 x hx
  omega

theorem neg_any (x : Int) (w : World) : Calls Tryz.prog 44 #[.int .i64 x] w fun e w' => e = .returned (.bool (decide (x < 0))) ∧ Below w.heap.size w w' := by
  go_enter Tryz.func44, Tryz.ntmps44
  go_wp2_with fail
  go_ret
  exact ⟨rfl, bb _⟩

set_option maxRecDepth 100000 in
set_option maxHeartbeats 8000000 in
theorem implXor_any (vars : Int) (v : Value) (L : List Int) (odd : Bool) (F : List Nat) (w : World) (hx : Ty.int.row false w v L F) :
    Calls Tryz.prog 14 #[.int .i64 vars, v, .bool odd] w (if xokB vars L then CnfR w (giveV vars (xorL L odd)) (giveL vars (xorL L odd)) (goodB vars (xorL L odd)) else CnfR w 0 [] false) := by
  obtain ⟨A, cap, rfl, hI⟩ := ints_row hx
  have S0 := (Sp.start w).alloc_box #[.int .i64 0, .slice none 0 0] 28
  have hcl := Lib.hid (fun W (h : Below w.heap.size w W) => implIsClause_any vars _ L F W (Ty.row_below hx h (Ty.row_lt hx)))
  have eg : Enter1 44 := enters_of Tryz.func44 (by kernel_rfl) rfl
  replace S0 := Lib.hid S0
  have hIH := Lib.hid hI
  have hxo : xokB vars L = (clauseB vars L && decide (L.length ≤ 5) && !(L.any fun v => decide (v < 0))) := rfl
  cases h1 : clauseB vars L
  · rw [h1] at hcl
    rw [if_neg (by rw [hxo, h1]; simp)]
    clear hxo h1 hx hI eg
    go_enter Tryz.func14, Tryz.ntmps14
    go_wp2_with fail
    refine (hcl.out _ S0.out.below).mono ?_
    rintro e w1 ⟨rfl, hb1⟩
    have S1 := Lib.hid (S0.out.grow hb1)
    clear S0 hb1 hcl
    have r0 := S1.out.cell (i := 0) rfl (o := 0) rfl
    have r1 := S1.out.cell (i := 0) rfl (o := 1) rfl
    have f0 := S1.out.frozen (i := 0) rfl 0
    have f1 := S1.out.frozen (i := 0) rfl 1
    have SF := (S1.out.store (i := 0) rfl 0 (.int .i64 0)).store (i := 0) rfl 1 (.slice none 0 0)
    have j0 := SF.cell (i := 0) rfl (o := 0) rfl
    have j1 := SF.cell (i := 0) rfl (o := 1) rfl
    have hB := Lib.hid SF.below
    clear SF S1
    go_wp2_with fail
    exact bodyPost_ret (v := .tuple #[.agg #[.int .i64 0, .slice none 0 0], .bool false]) (by simp [results, Tryz.results14, go_sem, j0, j1]) rfl ⟨none, 0, [], rfl, Ty.row_nil _ _ _ _ _ (by decide), hB.out⟩
  rw [h1] at hcl
  have hlen := clause_len h1
  rcases Nat.lt_or_ge 5 L.length with h2 | h2
  · rw [if_neg (by rw [hxo, h1, decide_eq_false (by omega)]; simp)]
    have h2i : (5 : Int) < (L.length : Int) := by omega
    clear hxo h1 hx hI eg
    go_enter Tryz.func14, Tryz.ntmps14
    go_wp2_with fail
    refine (hcl.out _ S0.out.below).mono ?_
    rintro e w1 ⟨rfl, hb1⟩
    have S1 := Lib.hid (S0.out.grow hb1)
    clear S0 hb1 hcl
    have r0 := S1.out.cell (i := 0) rfl (o := 0) rfl
    have r1 := S1.out.cell (i := 0) rfl (o := 1) rfl
    have f0 := S1.out.frozen (i := 0) rfl 0
    have f1 := S1.out.frozen (i := 0) rfl 1
    have SF := (S1.out.store (i := 0) rfl 0 (.int .i64 0)).store (i := 0) rfl 1 (.slice none 0 0)
    have j0 := SF.cell (i := 0) rfl (o := 0) rfl
    have j1 := SF.cell (i := 0) rfl (o := 1) rfl
    have hB := Lib.hid SF.below
    clear SF S1
    go_wp2_with fail
    exact bodyPost_ret (v := .tuple #[.agg #[.int .i64 0, .slice none 0 0], .bool false]) (by simp [results, Tryz.results14, go_sem, j0, j1]) rfl ⟨none, 0, [], rfl, Ty.row_nil _ _ _ _ _ (by decide), hB.out⟩
  have h2i : ¬ (5 : Int) < (L.length : Int) := by omega
  have hcf := Lib.hid (fun W (h : Below w.heap.size w W) => containsI_any (cb := #[]) (p := fun x => decide (x < 0)) (R := fun _ => True) eg L A cap W (hIH.out.grow h) (by omega) (fun _ _ => trivial) fun x V _ _ => neg_any x V)
  cases h3 : L.any fun v => decide (v < 0)
  case true =>
    rw [h3] at hcf
    rw [if_neg (by rw [hxo, h1, h3]; simp)]
    clear hxo h1 hx hI h3
    go_enter Tryz.func14, Tryz.ntmps14
    go_wp2_with fail
    refine (hcl.out _ S0.out.below).mono ?_
    rintro e w1 ⟨rfl, hb1⟩
    have S1 := Lib.hid (S0.out.grow hb1)
    clear S0 hb1 hcl
    go_wp2_with fail
    refine (hcf.out _ S1.out.below).mono ?_
    rintro e w2 ⟨rfl, hb2⟩
    have S2 := Lib.hid (S1.out.grow hb2)
    clear S1 hb2 hcf
    have r0 := S2.out.cell (i := 0) rfl (o := 0) rfl
    have r1 := S2.out.cell (i := 0) rfl (o := 1) rfl
    have f0 := S2.out.frozen (i := 0) rfl 0
    have f1 := S2.out.frozen (i := 0) rfl 1
    have SF := (S2.out.store (i := 0) rfl 0 (.int .i64 0)).store (i := 0) rfl 1 (.slice none 0 0)
    have j0 := SF.cell (i := 0) rfl (o := 0) rfl
    have j1 := SF.cell (i := 0) rfl (o := 1) rfl
    have hB := Lib.hid SF.below
    clear SF S2
    go_wp2_with fail
    exact bodyPost_ret (v := .tuple #[.agg #[.int .i64 0, .slice none 0 0], .bool false]) (by simp [results, Tryz.results14, go_sem, j0, j1]) rfl ⟨none, 0, [], rfl, Ty.row_nil _ _ _ _ _ (by decide), hB.out⟩
  case false =>
    rw [h3] at hcf
    have hxk : xokB vars L = true := by rw [hxo, h1, h3, decide_eq_true h2]; rfl
    rw [if_pos hxk]
    have hxc := Lib.hid (fun W (h : Below w.heap.size w W) => xorClauses_any L odd (xok_parts hxk).2.2.2 h2 A cap W (hIH.out.grow h))
    generalize xorL L odd = Z at *
    clear hxo h1 hx hI h3 hxk
    go_enter Tryz.func14, Tryz.ntmps14
    go_wp2_with fail
    refine (hcl.out _ S0.out.below).mono ?_
    rintro e w1 ⟨rfl, hb1⟩
    have S1 := Lib.hid (S0.out.grow hb1)
    clear S0 hb1 hcl
    go_wp2_with fail
    refine (hcf.out _ S1.out.below).mono ?_
    rintro e w2 ⟨rfl, hb2⟩
    have S2 := Lib.hid (S1.out.grow hb2)
    clear S1 hb2 hcf
    go_wp2_with fail
    refine (hxc.out _ S2.out.below).mono ?_
    rintro e w3 ⟨D, d, ns, K, rfl, hns, hsub, T⟩
    have S3 := (S2.out.seq T).alloc_box #[.int .i64 vars, .slice D ns.length d] 49
    obtain ⟨Fr, hr⟩ := S3.cls_row (i := 1) (j := 2) rfl rfl hsub
    rw [hns] at hr
    have hnl : ns.length = Z.length := by rw [← hns, List.length_map]
    have p1 := S3.cell (i := 0) rfl (o := 1) rfl
    have p0 := S3.cell (i := 0) rfl (o := 0) rfl
    obtain ⟨W3, hW3⟩ : ∃ W, w3.alloc (.cells #[.int .i64 vars, .slice D ns.length d] 49) = W := ⟨_, rfl⟩
    rw [hW3] at S3 hr p0 p1
    have p2 : W3.cell? ⟨w3.heap.size, 1, none⟩ = some (.slice D Z.length d) := by rw [← hnl]; exact p1
    have hcn := famCnf_any w3.heap.size vars D d Z Fr W3 p0 p2 (by rw [← hnl]; exact hr)
    rw [← hW3] at hcn
    replace hcn := Lib.hid hcn
    replace S3 := Lib.hid S3
    replace hns := Lib.hid hns
    replace hsub := Lib.hid hsub
    replace hnl := Lib.hid hnl
    clear S2 T hxc hr p0 p1 p2
    generalize hgo : goodB vars Z = g at *
    replace hW3 := Lib.hid hW3
    go_wp2_with fail
    refine hcn.out.mono ?_
    rw [hW3.out]
    rintro e w4 ⟨vq, A', n', c'', rfl, hb4, q1, q2⟩
    have S5 := S3.out.grow hb4
    replace q1 := Lib.hid q1
    replace q2 := Lib.hid q2
    have r0 := S5.cell (i := 3) rfl (o := 0) rfl
    have r1 := S5.cell (i := 3) rfl (o := 1) rfl
    have f0 := S5.frozen (i := 3) rfl 0
    have f1 := S5.frozen (i := 3) rfl 1
    have SF := (S5.store (i := 3) rfl 0 (.int .i64 vq)).store (i := 3) rfl 1 (.slice A' n' c'')
    have j0 := SF.cell (i := 3) rfl (o := 0) rfl
    have j1 := SF.cell (i := 3) rfl (o := 1) rfl
    obtain ⟨Fq, hrq⟩ := SF.cls_row (i := 1) (j := 2) rfl rfl hsub.out
    rw [hns.out, hnl.out] at hrq
    have hB := Lib.hid SF.below
    replace hrq := Lib.hid hrq
    clear S3 S5 SF hcn hb4 hsub hns hnl
    go_wp2_with fail
    subst hgo
    exact bodyPost_ret (v := .tuple #[.agg #[.int .i64 vq, .slice A' n' c''], .bool (goodB vars Z)]) (by simp [results, Tryz.results14, go_sem, j0, j1]) rfl (CnfR.ofR hrq.out hB.out q1.out q2.out)
end Go.Proofs.YtahbepajeplcmaaGreat

/- Contracts: all parity clauses, and the parity Cnf in the reference. Printed by gen_cuh.py. -/
namespace Go.Proofs.YtahbepajeplcmaaGreat
open Go.RowKit

/-- Variables in order. -/
def AscP (L : List Int) : Prop := L.Pairwise (· < ·) ∧ ∀ x ∈ L, 1 ≤ x ∧ x ≤ 12
theorem rowG_good {L : List Int} (h : AscP L) (c : Nat) : GoodS (rowG L L.length c) := by
  have hget : ∀ j (hj : j < L.length), L.getD j 0 = L[j] := fun j hj => by rw [List.getD_eq_getElem?_getD, List.getElem?_eq_getElem hj]; rfl
  have hval : ∀ j (hj : j < L.length), (rowG L L.length c)[j]'(by rw [rowG_len]; exact hj) = L[j] ∨ (rowG L L.length c)[j]'(by rw [rowG_len]; exact hj) = -L[j] := fun j hj => by
    unfold rowG
    rw [List.getElem_map, List.getElem_range, hget j hj]
    split
    · exact .inr rfl
    · exact .inl rfl
  have hlit : ∀ j (hj : j < L.length), LitS ((rowG L L.length c)[j]'(by rw [rowG_len]; exact hj)) ∧ absV ((rowG L L.length c)[j]'(by rw [rowG_len]; exact hj)) = L[j] := fun j hj => by
    have hb := h.2 _ (List.getElem_mem hj)
    have hL : LitS ((rowG L L.length c)[j]'(by rw [rowG_len]; exact hj)) := by
      unfold LitS
      rcases hval j hj with e | e <;> rw [e] <;> omega
    refine ⟨hL, ?_⟩
    rw [hL.abs]
    rcases hval j hj with e | e <;> rw [e]
    · rw [if_neg (by omega)]
    · rw [if_pos (by omega)]; omega
  refine ⟨fun x hx => ?_, List.pairwise_iff_getElem.2 fun i j hi hj hij => ?_⟩
  · obtain ⟨j, hj, rfl⟩ := List.getElem_of_mem hx
    exact (hlit j (by rw [rowG_len] at hj; exact hj)).1
  · rw [rowG_len] at hi hj
    unfold AscS
    rw [(hlit i hi).2, (hlit j hj).2]
    exact List.pairwise_iff_getElem.1 h.1 i j hi hj hij
theorem rowG_take {L : List Int} {n c k : Nat} (h : k < n) : (rowG L n c).take (k + 1) = (rowG L n c).take k ++ [if c.testBit (n - (k + 1)) then -(L.getD k 0) else L.getD k 0] := by
  unfold rowG
  rw [← List.map_take, ← List.map_take, List.take_range, List.take_range, Nat.min_eq_left (by omega), Nat.min_eq_left (by omega), List.range_succ, List.map_append]
  rfl
theorem ngC_snoc (c : List Int) (x : Int) : ngC (c ++ [x]) = ngC c + if x < 0 then 1 else 0 := by
  unfold ngC
  rw [List.filter_append, List.length_append, List.filter_cons]
  by_cases h2 : x < 0 <;> simp [h2]

set_option maxRecDepth 100000 in
set_option maxHeartbeats 16000000 in
theorem l4Full_any (vars : Int) (L : List Int) (odd : Bool) (kz : Int) (hkz : 0 ≤ kz ∧ kz ≤ 1 ∧ (kz = 0 ↔ odd = true)) (hp : AscP L) (hn : L.length ≤ 5) (A : Option Addr) (cap : Nat) (w : World) (hx : IntsAt w A L) :
    Calls Tryz.prog 48 #[.int .i64 vars, .slice A L.length cap, .int .i64 kz] w (AddP w [] vars (xorL L odd)) := by
  obtain ⟨i2, hj0, hy0, hy1, hy2⟩ := info_parts infoInt
  have hall := xorK_all L odd
  have hgood := Lib.hid (rowG_good hp)
  have htk := Lib.hid (fun (c k : Nat) (h : k < L.length) => rowG_take (L := L) (c := c) h)
  have hget : Hid (∀ k (h : k < L.length), L.getD k 0 = L[k]) := fun k h => by rw [List.getD_eq_getElem?_getD, List.getElem?_eq_getElem h]; rfl
  obtain ⟨hsh, hpw⟩ := pow12 (show L.length ≤ 12 by omega)
  have h32 : 2 ^ L.length ≤ 32 := Nat.pow_le_pow_right (by decide) hn
  have hrl := Lib.hid (rowG_len L L.length)
  have hX := Lib.hid hx
  have hpb := Lib.hid hp.2
  have hxl := Lib.hid (xorK_len L odd)
  have hxs := Lib.hid (xorK_succ L odd)
  obtain ⟨n, hnn⟩ : ∃ n, L.length = n := ⟨_, rfl⟩
  rw [hnn] at hall hgood htk hsh hpw h32 hrl hn hxs ⊢
  obtain ⟨N, hN⟩ : ∃ N, 2 ^ n = N := ⟨_, rfl⟩
  rw [hN] at hall hsh hpw h32
  replace hnn := Lib.hid hnn
  replace hN := Lib.hid hN
  replace hall := Lib.hid hall
  have S0 := Lib.hid ((Sp.start w).alloc_box #[.int .i64 0, .slice none 0 0] 28)
  have hnew := Lib.hid (l4New_any vars (w.alloc (.cells #[.int .i64 0, .slice none 0 0] 28)))
  have hk2 : (kz == 2) = false := by rw [beq_eq_false_iff_ne]; omega
  have hk2b : ¬ kz = 2 := by omega
  clear hx hp
  go_enter Tryz.func48, Tryz.ntmps48
  go_wp2_with fail
  refine hnew.out.mono ?_
  rintro e w1 ⟨B, c, rfl, T⟩
  have S1 := (S0.out.seq T).alloc_box #[.int .i64 vars, .slice B 0 c] 28
  replace S1 := Lib.hid S1
  clear hnew S0 T
  go_wp2_with fail
  obtain ⟨fb, hfb⟩ : ∃ fb, w1.heap.size = fb := ⟨_, rfl⟩
  obtain ⟨rb, hrb⟩ : ∃ rb, w.heap.size = rb := ⟨_, rfl⟩
  have S2 : Hid (Sp w (w1.alloc (.cells #[.int .i64 vars, .slice B 0 c] 28)) (Rows Ty.int 35 (.slice B 0 c) [] ([] : List (List Int)) :: Box fb 28 #[.int .i64 vars, .slice B 0 c] :: [Box rb 28 #[.int .i64 0, .slice none 0 0]])) := by
    have h := S1.out
    rw [hfb, hrb] at h
    exact h.swap
  rw [hfb, hrb]
  replace hrb := Lib.hid hrb
  clear S1 hfb
  go_loopw [8] (fun v8 wr => ∃ (i q : Nat) (B' : Option Addr) (c' : Nat) (cs' : List Value) (zss : List (List Int)), i ≤ N ∧ v8 = .int .i64 i ∧ q ≤ i ∧ Hid (zss.length = q) ∧ Hid (zss = xorK L odd i) ∧ Hid (Sp w wr (Rows Ty.int 35 (.slice B' q c') cs' zss :: Box fb 28 #[.int .i64 vars, .slice B' q c'] :: [Box rb 28 #[.int .i64 0, .slice none 0 0]]))) (fun v8 _ => N - (intOf v8).toNat)
  case atStart => exact ⟨0, 0, B, c, [], [], Nat.zero_le _, rfl, Nat.le_refl _, rfl, rfl, S2⟩
  case round =>
    clear S2
    obtain ⟨i, q, B', c', cs', zss, hi, rfl, hqi, hzl, hzs, HS⟩ := hrel
    by_cases hlt : i < N
    · have hstep := hxs.out i
      have hR := hgood.out i
      have hngl := ngC_le (rowG L n i)
      have htki := Lib.hid (fun k (h : k < n) => htk.out i k h)
      have hlr := hrl.out i
      rw [hlr] at hngl
      obtain ⟨R, hRR⟩ : ∃ R, rowG L n i = R := ⟨_, rfl⟩
      rw [hRR] at hstep hR hngl htki hlr
      replace hlr := Lib.hid hlr
      replace hstep := Lib.hid hstep
      replace hR := Lib.hid hR
      have S5 := Lib.hid (HS.out.own_made 3 1)
      clear HS hRR
      go_wp2_with fail
      try rw [hsh]
      go_loopw [9, 10, 11] (fun v9 v10 v11 wz => ∃ (k g : Nat) (D : Option Addr) (dc : Nat) (ds : List Int), k ≤ n ∧ v11 = .int .i64 k ∧ v10 = .int .i64 g ∧ v9 = .slice D k dc ∧ Hid (ngC (R.take k) = g) ∧ Hid (ds = R.take k) ∧ Hid (Sp w wz (Own 3 1 (.slice D k dc) k (ds.map (.int .i64)) :: Rows Ty.int 35 (.slice B' q c') cs' zss :: Box fb 28 #[.int .i64 vars, .slice B' q c'] :: [Box rb 28 #[.int .i64 0, .slice none 0 0]]))) (fun _ _ v11 _ => n - (intOf v11).toNat)
      case atStart => exact ⟨0, 0, _, 0, [], Nat.zero_le _, rfl, rfl, rfl, rfl, rfl, S5⟩
      case round =>
        clear S5
        rename World => wz
        obtain ⟨k, g, D, dc, ds, hk, rfl, rfl, rfl, hgk, hds, HS2⟩ := hrel
        by_cases hk3 : k < n
        · have hkL : k < L.length := by rw [hnn.out]; exact hk3
          obtain ⟨xb, xo, rfl, x0⟩ := (hX.out.grow HS2.out.below).at_ k hkL
          have h12 := hpb.out _ (List.getElem_mem hkL)
          have htk0 := htki.out k hk3
          rw [← hds.out, hget.out k hkL] at htk0
          have hnk0 := congrArg ngC htk0
          rw [ngC_snoc, hds.out, hgk.out] at hnk0
          have hg5 : g ≤ k := by rw [← hgk.out]; exact Nat.le_trans (ngC_le _) (by rw [List.length_take]; omega)
          obtain ⟨m, hm⟩ : ∃ m, n - (k + 1) = m := ⟨_, rfl⟩
          have hw1 : IntKind.i64.wrap ((n : Int) - 1) = (n : Int) - 1 := IntWalk.i64_in _ (by omega)
          have hw2 : IntKind.i64.wrap ((n : Int) - 1 - k) = (m : Int) := by rw [IntWalk.i64_in _ (by omega)]; omega
          have hand := bit_at i (by omega) m
          rw [hm] at htk0 hnk0
          generalize L[k] = x at *
          have hw3 : IntKind.i64.wrap (-x) = -x := IntWalk.i64_in _ (by omega)
          have hw4 : IntKind.i64.wrap ((g : Int) + 1) = ((g + 1 : Nat) : Int) := by rw [IntWalk.i64_in _ (by omega)]; rfl
          have hm0 : (0 : Int) ≤ (m : Int) := by omega
          replace hm := Lib.hid hm
          generalize i.testBit m = bt at *
          clear hgk hkL
          cases bt
          · simp only [Bool.false_eq_true, if_false] at hand htk0 hnk0
            have hnx : Hid (ds ++ [x] = R.take (k + 1)) := htk0.symm
            have hnk : Hid (ngC (R.take (k + 1)) = g) := by unfold Hid; rw [hnk0, if_neg (by omega)]; rfl
            clear htk0 hnk0
            have S7 := HS2.out.alloc_box #[.int .i64 (x)] 3
            have kB := S7.cell (i := 0) rfl (o := 0) rfl
            replace S7 := Lib.hid S7
            clear HS2 hds
            go_wp2_with (at_builtin; refine wpList_append_src rfl _ _ rfl Tryz.underlying35 hj0 hy0 hy1 hy2 rfl (by decide) _ k _ rfl (S7.out.own (i := 1) rfl) _ 1 1 [.int .i64 (x)] rfl (Src.one kB) (by simp [Value.oneCell']) ?c3 ?c4 ?_)
            case c3 => unfold maxLen; omega
            case c4 => omega
            intro vE wE hownE hgE hatE
            have S8 := (S7.out.own_push (i := 1) rfl (bb _) hownE hgE (by simpa using hatE)).tail
            obtain ⟨aE, cE, rfl⟩ := own_slice hownE
            have hfl : ds.map (Value.int .i64) ++ [.int .i64 (x)] = (ds ++ [x]).map (.int .i64) := by simp
            simp only [List.set_cons_zero, List.set_cons_succ] at S8
            rw [hfl] at S8
            replace S8 := Lib.hid S8
            generalize ds ++ [x] = ds2 at *
            clear S7 kB hownE hgE hatE hfl
            go_wp2_with fail
            go_roundw
            case rel => exact ⟨k + 1, g, aE, cE, ds2, by omega, by go_num, by first | rfl | go_num, rfl, hnk, hnx, S8⟩
            case measure => simp [intOf]; omega
          · simp only [if_true] at hand htk0 hnk0
            have hnx : Hid (ds ++ [-x] = R.take (k + 1)) := htk0.symm
            have hnk : Hid (ngC (R.take (k + 1)) = g + 1) := by unfold Hid; rw [hnk0, if_pos (by omega)]
            clear htk0 hnk0
            have S7 := HS2.out.alloc_box #[.int .i64 (-x)] 3
            have kB := S7.cell (i := 0) rfl (o := 0) rfl
            replace S7 := Lib.hid S7
            clear HS2 hds
            go_wp2_with (at_builtin; refine wpList_append_src rfl _ _ rfl Tryz.underlying35 hj0 hy0 hy1 hy2 rfl (by decide) _ k _ rfl (S7.out.own (i := 1) rfl) _ 1 1 [.int .i64 (-x)] rfl (Src.one kB) (by simp [Value.oneCell']) ?c3 ?c4 ?_)
            case c3 => unfold maxLen; omega
            case c4 => omega
            intro vE wE hownE hgE hatE
            have S8 := (S7.out.own_push (i := 1) rfl (bb _) hownE hgE (by simpa using hatE)).tail
            obtain ⟨aE, cE, rfl⟩ := own_slice hownE
            have hfl : ds.map (Value.int .i64) ++ [.int .i64 (-x)] = (ds ++ [-x]).map (.int .i64) := by simp
            simp only [List.set_cons_zero, List.set_cons_succ] at S8
            rw [hfl] at S8
            replace S8 := Lib.hid S8
            generalize ds ++ [-x] = ds2 at *
            clear S7 kB hownE hgE hatE hfl
            go_wp2_with fail
            go_roundw
            case rel => exact ⟨k + 1, g + 1, aE, cE, ds2, by omega, by go_num, by first | rfl | go_num, rfl, hnk, hnx, S8⟩
            case measure => simp [intOf]; omega
        · obtain rfl : n = k := by omega
          have htR : R.take n = R := List.take_of_length_le (by rw [hlr.out]; exact Nat.le_refl _)
          rw [htR] at hgk hds
          have hg5 : g ≤ 5 := by rw [← hgk.out]; omega
          have hdec : ((g : Int) % 2 == kz) = ((g % 2 == 0) == odd) := by
            rw [Bool.eq_iff_iff, beq_iff_eq]
            obtain ⟨h1, h2, h3⟩ := hkz
            rcases Nat.mod_two_eq_zero_or_one g with h | h
            · rw [h]
              cases odd
              · have : kz ≠ 0 := fun e => by have := h3.1 e; cases this
                simp
                omega
              · have : kz = 0 := h3.2 rfl
                simp
                omega
            · rw [h]
              cases odd
              · have : kz ≠ 0 := fun e => by have := h3.1 e; cases this
                simp
                omega
              · have : kz = 0 := h3.2 rfl
                simp
                omega
          rw [hgk.out] at hstep
          clear hngl htki hgk htR
          cases hb : ((g % 2 == 0) == odd)
          · have hgI := Lib.hid (hdec.trans hb)
            have hx2 : Hid (zss = xorK L odd (i + 1)) := by unfold Hid; rw [hstep.out, hzs.out]; exact (if_neg (by rw [hb]; decide)).symm
            have HS3 := Lib.hid (Sp.pick [1, 1, 1] HS2.out rfl)
            clear hdec hb hstep hzs HS2
            go_upto_if 61 with fail
            rw [hgI.out]
            clear hgI
            go_wp2_with fail
            go_roundw
            case rel => exact ⟨i + 1, q, B', c', cs', zss, by omega, by go_num, by omega, hzl, hx2, HS3⟩
            case measure => simp [intOf]; omega
          · have hgI := Lib.hid (hdec.trans hb)
            have hx2 : Hid (zss ++ [R] = xorK L odd (i + 1)) := by unfold Hid; rw [hstep.out, hzs.out]; exact (if_pos hb).symm
            have hzq := hzl.out
            have S8 : Sp w wz (Rows Ty.int 35 (.slice B' zss.length c') cs' zss :: [Own 3 1 (.slice D R.length dc) R.length (R.map (.int .i64)), Box fb 28 #[.int .i64 vars, .slice B' q c'], Box rb 28 #[.int .i64 0, .slice none 0 0]]) := by
              have h := Sp.pick [1, 0, 0, 0] HS2.out rfl
              rw [hds.out] at h
              rw [hlr.out, hzq]
              exact h
            have hcall := l4Add_any vars B' c' cs' zss _ w wz R D dc (S8.ints (i := 1) rfl (fun x hx => (hR.out.mem x hx).i64)) hR.out (by rw [hlr.out]; omega) (by omega) S8
            rw [capL_all (by rw [List.length_append, List.length_singleton]; omega), hlr.out, hzq] at hcall
            have p0 := HS2.out.cell (i := 2) rfl (o := 0) rfl
            have p1 := HS2.out.cell (i := 2) rfl (o := 1) rfl
            replace hcall := Lib.hid hcall
            have hzl2 : Hid ((zss ++ [R]).length = q + 1) := by unfold Hid; rw [List.length_append, hzq]; rfl
            clear hdec hb hstep hzs HS2 S8 hzq hds
            go_upto_if 61 with fail
            rw [hgI.out]
            clear hgI
            go_wp2_with fail
            refine hcall.out.mono ?_
            rintro e w4 ⟨B2, c2, cs2, rfl, S4⟩
            rw [hzl2.out] at S4 ⊢
            have o0 := S4.cell (i := 2) rfl (o := 0) rfl
            have o1 := S4.cell (i := 2) rfl (o := 1) rfl
            have f0 := S4.frozen (i := 2) rfl 0
            have f1 := S4.frozen (i := 2) rfl 1
            have S6 := Lib.hid (Sp.pick [0, 1, 1] ((S4.store (i := 2) rfl 0 (.int .i64 vars)).store (i := 2) rfl 1 (.slice B2 (q + 1) c2)) rfl)
            clear hcall S4 p0 p1
            generalize zss ++ [R] = zss2 at *
            go_wp2_with fail
            go_roundw
            case rel => exact ⟨i + 1, q + 1, B2, c2, cs2, zss2, by omega, by go_num, by omega, hzl2, hx2, S6⟩
            case measure => simp [intOf]; omega
    · obtain rfl : N = i := by omega
      rw [hall.out] at hzs
      have ez : zss = xorL L odd := hzs.out
      subst ez
      have hq := hzl.out
      subst hq
      clear hzl
      have p0 := HS.out.cell (i := 1) rfl (o := 0) rfl
      have p1 := HS.out.cell (i := 1) rfl (o := 1) rfl
      have r0 := HS.out.cell (i := 2) rfl (o := 0) rfl
      have r1 := HS.out.cell (i := 2) rfl (o := 1) rfl
      have f0 := HS.out.frozen (i := 2) rfl 0
      have f1 := HS.out.frozen (i := 2) rfl 1
      have SF := (HS.out.store (i := 2) rfl 0 (.int .i64 vars)).store (i := 2) rfl 1 (.slice B' (xorL L odd).length c')
      have j0 := SF.cell (i := 2) rfl (o := 0) rfl
      have j1 := SF.cell (i := 2) rfl (o := 1) rfl
      have SF3 := Lib.hid (Sp.pick (qs := [Rows Ty.int 35 (.slice B' (xorL L odd).length c') cs' (xorL L odd)]) [0] SF rfl)
      clear HS SF hzs
      go_wp2_with fail
      exact bodyPost_ret (v := .agg #[.int .i64 vars, .slice B' (xorL L odd).length c']) (by simp [results, Tryz.results48, go_sem, j0, j1]) rfl ⟨B', c', cs', rfl, SF3.out⟩
end Go.Proofs.YtahbepajeplcmaaGreat

/- Contract: the parity Cnf in the reference. Printed by gen_cui.py. -/
namespace Go.Proofs.YtahbepajeplcmaaGreat
open Go.RowKit

theorem xok_asc {vars : Int} {L : List Int} (h : xokB vars L = true) : AscP L := by
  obtain ⟨h1, h2, h3, h4⟩ := xok_parts h
  have hg := good_s h1
  refine ⟨?_, h4⟩
  have habs : ∀ x ∈ L, absV x = x := fun x hx => by rw [(hg.mem x hx).abs, if_neg (by have := h4 x hx; omega)]
  refine List.Pairwise.imp_of_mem ?_ hg.asc
  intro a b ha hb hab
  unfold AscS at hab
  rw [habs a ha, habs b hb] at hab
  exact hab
theorem cok_ris {vars : Int} {L : List Int} (hv : 0 ≤ vars ∧ vars ≤ 12) (hn : ∀ x ∈ L, 0 ≤ x) {i : Nat} (hi : i < L.length) : cOk vars L i = rOkG 1 vars L i := by
  have hget : ∀ j (hj : j < L.length), L.getD j 0 = L[j] := fun j hj => by rw [List.getD_eq_getElem?_getD, List.getElem?_eq_getElem hj]; rfl
  have h0 := hn _ (List.getElem_mem hi)
  have habs : ∀ {x : Int}, 0 ≤ x → absV x = x := fun {x} h => by unfold absV; rw [if_neg (by omega)]
  have hl : litB vars L[i] = inB L[i] 1 vars := by
    unfold litB
    rw [negV_small (by unfold I64; omega) (by omega), Bool.eq_iff_iff, Bool.and_eq_true, inB_true, inB_true, bne_iff_ne]
    omega
  unfold cOk rOkG
  rw [hget i hi, hl]
  congr 1
  rcases Nat.eq_zero_or_pos i with rfl | hp
  · rfl
  · rw [hget (i - 1) (by omega), habs h0, habs (hn _ (List.getElem_mem _))]
theorem xok_ris (vars : Int) (L : List Int) : xokB vars L = (inB vars 0 12 && decide (L.length ≤ 5) && risG 1 vars L) := by
  unfold xokB clauseB
  cases hv : inB vars 0 12
  · rfl
  have hv2 := inB_true.1 hv
  cases hn : L.any fun v => decide (v < 0)
  · have hn2 : ∀ x ∈ L, 0 ≤ x := fun x hx => by
      have := List.any_eq_false.1 hn x hx
      rw [decide_eq_true_eq] at this
      omega
    have e : cOkTo vars L L.length = risG 1 vars L := by
      unfold cOkTo risG rOkGTo
      rw [Bool.eq_iff_iff, List.all_eq_true, List.all_eq_true]
      exact ⟨fun h i hi => by rw [← cok_ris hv2 hn2 (List.mem_range.1 hi)]; exact h i hi, fun h i hi => by rw [cok_ris hv2 hn2 (List.mem_range.1 hi)]; exact h i hi⟩
    rw [e]
    cases risG 1 vars L <;> cases decide (L.length ≤ 5) <;> rfl
  · have e : risG 1 vars L = false := by
      obtain ⟨x, hx, h2⟩ := List.any_eq_true.1 hn
      rw [decide_eq_true_eq] at h2
      obtain ⟨i, hi, rfl⟩ := List.getElem_of_mem hx
      refine risG_no hi ?_
      unfold rOkG
      rw [List.getD_eq_getElem?_getD, List.getElem?_eq_getElem hi, Option.getD_some]
      have : inB L[i] 1 vars = false := by
        rw [Bool.eq_false_iff]
        intro h
        have := inB_true.1 h
        omega
      rw [this]; rfl
    rw [e]
    simp

set_option maxRecDepth 100000 in
set_option maxHeartbeats 8000000 in
theorem specXor_any (vars : Int) (v : Value) (L : List Int) (odd : Bool) (F : List Nat) (w : World) (hx : Ty.int.row false w v L F) (hl : L.length ≤ 1000000) :
    Calls Tryz.prog 15 #[.int .i64 vars, v, .bool odd] w (if xokB vars L then CnfR w (giveV vars (xorL L odd)) (giveL vars (xorL L odd)) (goodB vars (xorL L odd)) else CnfR w 0 [] false) := by
  obtain ⟨A, cap, rfl, hI⟩ := ints_row hx
  have S0 := (Sp.start w).alloc_box #[.int .i64 0, .slice none 0 0] 28
  have hv := Lib.hid (fun W => l2Vars_any vars W)
  replace S0 := Lib.hid S0
  have hIH := Lib.hid hI
  have hxo := xok_ris vars L
  cases h1 : inB vars 0 12
  · rw [h1] at hv
    rw [if_neg (by rw [hxo, h1]; simp)]
    clear hxo h1 hx hI
    go_enter Tryz.func15, Tryz.ntmps15
    go_wp2_with fail
    refine (hv.out _).mono ?_
    rintro e w1 ⟨rfl, rfl⟩
    clear hv
    have r0 := S0.out.cell (i := 0) rfl (o := 0) rfl
    have r1 := S0.out.cell (i := 0) rfl (o := 1) rfl
    have hB := Lib.hid S0.out.below
    clear S0
    go_wp2_with fail
    exact bodyPost_ret (v := .tuple #[.agg #[.int .i64 0, .slice none 0 0], .bool false]) (by simp [results, Tryz.results15, go_sem, r0, r1]) rfl ⟨none, 0, [], rfl, Ty.row_nil _ _ _ _ _ (by decide), hB.out⟩
  rw [h1] at hv
  rcases Nat.lt_or_ge 5 L.length with h2 | h2
  · rw [if_neg (by rw [hxo, h1, decide_eq_false (by omega)]; simp)]
    have h2i : (5 : Int) < (L.length : Int) := by omega
    clear hxo h1 hx hI
    go_enter Tryz.func15, Tryz.ntmps15
    go_wp2_with fail
    refine (hv.out _).mono ?_
    rintro e w1 ⟨rfl, rfl⟩
    clear hv
    have r0 := S0.out.cell (i := 0) rfl (o := 0) rfl
    have r1 := S0.out.cell (i := 0) rfl (o := 1) rfl
    have hB := Lib.hid S0.out.below
    clear S0
    go_wp2_with fail
    exact bodyPost_ret (v := .tuple #[.agg #[.int .i64 0, .slice none 0 0], .bool false]) (by simp [results, Tryz.results15, go_sem, r0, r1]) rfl ⟨none, 0, [], rfl, Ty.row_nil _ _ _ _ _ (by decide), hB.out⟩
  have h2i : ¬ (5 : Int) < (L.length : Int) := by omega
  have hri := Lib.hid (fun W (h : Below w.heap.size w W) => l1RisingG_any A cap L 1 vars W (hIH.out.grow h) hl)
  cases h3 : risG 1 vars L
  · rw [h3] at hri
    rw [if_neg (by rw [hxo, h1, h3]; simp)]
    clear hxo h1 hx hI h3
    go_enter Tryz.func15, Tryz.ntmps15
    go_wp2_with fail
    refine (hv.out _).mono ?_
    rintro e w1 ⟨rfl, rfl⟩
    clear hv
    go_wp2_with fail
    refine (hri.out _ S0.out.below).mono ?_
    rintro e w2 ⟨rfl, hb2⟩
    have S2 := Lib.hid (S0.out.grow hb2)
    clear S0 hb2 hri
    have r0 := S2.out.cell (i := 0) rfl (o := 0) rfl
    have r1 := S2.out.cell (i := 0) rfl (o := 1) rfl
    have f0 := S2.out.frozen (i := 0) rfl 0
    have f1 := S2.out.frozen (i := 0) rfl 1
    have SF := (S2.out.store (i := 0) rfl 0 (.int .i64 0)).store (i := 0) rfl 1 (.slice none 0 0)
    have j0 := SF.cell (i := 0) rfl (o := 0) rfl
    have j1 := SF.cell (i := 0) rfl (o := 1) rfl
    have hB := Lib.hid SF.below
    clear SF S2
    go_wp2_with fail
    exact bodyPost_ret (v := .tuple #[.agg #[.int .i64 0, .slice none 0 0], .bool false]) (by simp [results, Tryz.results15, go_sem, j0, j1]) rfl ⟨none, 0, [], rfl, Ty.row_nil _ _ _ _ _ (by decide), hB.out⟩
  rw [h3] at hri
  have hxk : xokB vars L = true := by rw [hxo, h1, h3, decide_eq_true h2]; rfl
  rw [if_pos hxk]
  have hfu := Lib.hid (fun kz hk W (h : Below w.heap.size w W) => l4Full_any vars L odd kz hk (xok_asc hxk) h2 A cap W (hIH.out.grow h))
  generalize xorL L odd = Z at *
  clear hxo h1 hx hI h3 hxk
  cases odd
  all_goals
    go_enter Tryz.func15, Tryz.ntmps15
    go_wp2_with fail
    refine (hv.out _).mono ?_
    rintro e w1 ⟨rfl, rfl⟩
    clear hv
    go_wp2_with fail
    refine (hri.out _ S0.out.below).mono ?_
    rintro e w2 ⟨rfl, hb2⟩
    have S2 := Lib.hid (S0.out.grow hb2)
    clear S0 hb2 hri
    go_wp2_with fail
    refine (hfu.out _ (by decide) _ S2.out.below).mono ?_
    rintro e w3 ⟨B, c, cs, rfl, T⟩
    have S3 := S2.out.seq T
    obtain ⟨Fr, hr, -, -⟩ := S3.rows_done (i := 0) rfl
    have hgv := Lib.hid (l4Give_any vars B c Z Fr w3 (Ty.row_down hr))
    replace S3 := Lib.hid S3
    clear S2 T hfu hr
    generalize hgo : goodB vars Z = g at *
    go_wp2_with fail
    refine hgv.out.mono ?_
    rintro e w4 ⟨vq, A', n', c'', rfl, hb4, q1, q2⟩
    have S5 := S3.out.grow hb4
    replace q1 := Lib.hid q1
    replace q2 := Lib.hid q2
    have r0 := S5.cell (i := 1) rfl (o := 0) rfl
    have r1 := S5.cell (i := 1) rfl (o := 1) rfl
    have f0 := S5.frozen (i := 1) rfl 0
    have f1 := S5.frozen (i := 1) rfl 1
    have SF := (S5.store (i := 1) rfl 0 (.int .i64 vq)).store (i := 1) rfl 1 (.slice A' n' c'')
    have j0 := SF.cell (i := 1) rfl (o := 0) rfl
    have j1 := SF.cell (i := 1) rfl (o := 1) rfl
    have SF2 := Lib.hid (Sp.pick [0] SF rfl)
    clear S3 S5 SF hgv hb4
    go_wp2_with fail
    subst hgo
    exact bodyPost_ret (v := .tuple #[.agg #[.int .i64 vq, .slice A' n' c''], .bool (goodB vars Z)]) (by simp [results, Tryz.results15, go_sem, j0, j1]) rfl (CnfR.of SF2.out q1.out q2.out)
end Go.Proofs.YtahbepajeplcmaaGreat

/- Contracts: numbers of variables and literals that are drawn, up to thirteen. -/
namespace Go.Proofs.YtahbepajeplcmaaGreat
open Go.RowKit

/- left out: the seat has no (*loop.example/g01080/spec.l1Cur).vars6 -/

theorem lit_three13 {w1 : World} {vars : Int} {g A cl cc : Nat} {ca : Option Addr} (h : CurIs A g ca cl cc w1) (hv : -1 ≤ vars ∧ vars ≤ 13) (hA : A ≤ 80000000) :
    Calls Tryz.prog 20 #[.pointer (some ⟨g, 0, none⟩), .slice (some ⟨w1.heap.size, 0, none⟩) 3 3] (w1.alloc (.cells #[.int .i64 0, .int .i64 (vars + 1), .int .i64 (-vars - 1)] 3)) (CurPost (IntIn (-14) 14) (A + 2) g ca cl cc (w1.alloc (.cells #[.int .i64 0, .int .i64 (vars + 1), .int .i64 (-vars - 1)] 3))) := by
  have hg := h.lt
  refine cur_among (-14) 14 w1.heap.size 0 3 3 A g ca cl cc _ (h.grow (bal (bb _) _)) (by omega) (by decide) (by decide) (ints_new rfl fun j hj => ?_) (by omega)
  match j, hj with
  | 0, _ => exact ⟨_, rfl, by decide, by decide⟩
  | 1, _ => exact ⟨_, rfl, by omega, by omega⟩
  | 2, _ => exact ⟨_, rfl, by omega, by omega⟩

set_option maxRecDepth 100000 in
set_option maxHeartbeats 4000000 in
theorem cur_lit13 (vars : Int) (hv : -1 ≤ vars ∧ vars ≤ 13) (A g : Nat) (ca : Option Addr) (cl cc : Nat) (w : World) (h : CurIs A g ca cl cc w) (hA : A ≤ 70000000) :
    Calls Tryz.prog 91 #[.pointer (some ⟨g, 0, none⟩), .int .i64 vars] w (CurPost (IntIn (-14) 14) (A + 8) g ca cl cc w) := by
  have hg := h.lt
  have w1' : IntKind.i64.wrap (vars + 1) = vars + 1 := IntWalk.i64_in _ (by omega)
  have w2' : IntKind.i64.wrap (-vars) = -vars := IntWalk.i64_in _ (by omega)
  have w3' : IntKind.i64.wrap (-vars - 1) = -vars - 1 := IntWalk.i64_in _ (by omega)
  have S0 := Lib.hid (CS.start h)
  by_cases hlt : vars < 1
  · have hcall := Lib.hid (lit_three13 h hv (by omega))
    go_enter Tryz.func91, Tryz.ntmps91
    go_wp2_with fail
    refine hcall.out.mono ?_
    rintro e w2 ⟨_, ⟨z, hz0, hz1, rfl⟩, rfl, hi2, hc2⟩
    have hC := ((S0.out.alloc _).turn hi2 hc2).chg
    clear S0 hc2 hcall
    go_wp2_with fail
    go_ret
    exact ⟨_, ⟨z, hz0, hz1, rfl⟩, rfl, hi2.mono (by omega), hC⟩
  · go_enter Tryz.func91, Tryz.ntmps91
    go_wp2_with fail
    refine (cur_one 40 A g ca cl cc w h (by omega) (by omega)).mono ?_
    rintro e w1 ⟨_, ⟨q, rfl⟩, rfl, hi1, hc1⟩
    have S1 := Lib.hid (S0.out.turn hi1 hc1)
    have hg1 := hi1.lt
    clear S0 hc1
    cases q
    · go_wp2_with fail
      refine (cur_pick_at (lo := 0) (hi := vars - 1) hi1 (by omega) (by omega) (by omega) (by omega) (by omega)).mono ?_
      rintro e w2 ⟨_, ⟨x, hx0, hx1, rfl⟩, rfl, hi2, hc2⟩
      have S2 := Lib.hid (S1.out.turn hi2 hc2)
      have w4 : IntKind.i64.wrap (1 + x) = 1 + x := IntWalk.i64_in _ (by omega)
      have w5 : IntKind.i64.wrap (-(1 + x)) = -(1 + x) := IntWalk.i64_in _ (by omega)
      clear S1 hc2
      go_wp2_with fail
      refine (cur_one 2 _ g ca cl cc _ hi2 (by omega) (by omega)).mono ?_
      rintro e w3 ⟨_, ⟨q, rfl⟩, rfl, hi3, hc3⟩
      have hC := (S2.out.turn hi3 hc3).chg
      clear S2 hc3
      cases q
      · go_wp2_with fail
        go_ret
        exact ⟨_, ⟨1 + x, by omega, by omega, rfl⟩, rfl, hi3.mono (by omega), hC⟩
      · go_wp2_with fail
        go_ret
        exact ⟨_, ⟨-(1 + x), by omega, by omega, rfl⟩, rfl, hi3.mono (by omega), hC⟩
    · have hcall := Lib.hid (lit_three13 hi1 hv (by omega))
      go_wp2_with fail
      refine hcall.out.mono ?_
      rintro e w2 ⟨_, ⟨z, hz0, hz1, rfl⟩, rfl, hi2, hc2⟩
      have hC := ((S1.out.alloc _).turn hi2 hc2).chg
      clear S1 hc2 hcall
      go_wp2_with fail
      go_ret
      exact ⟨_, ⟨z, hz0, hz1, rfl⟩, rfl, hi2.mono (by omega), hC⟩

theorem among_four {w1 : World} {vars : Int} {g A cl cc : Nat} {ca : Option Addr} (h : CurIs A g ca cl cc w1) (hv : -1 ≤ vars ∧ vars ≤ 13) (hA : A ≤ 80000000) :
    Calls Tryz.prog 20 #[.pointer (some ⟨g, 0, none⟩), .slice (some ⟨w1.heap.size, 0, none⟩) 4 4] (w1.alloc (.cells #[.int .i64 0, .int .i64 (vars + 1), .int .i64 (-vars - 1), .int .i64 (-9223372036854775808)] 3)) (CurPost (IntIn (-9223372036854775808) 14) (A + 2) g ca cl cc (w1.alloc (.cells #[.int .i64 0, .int .i64 (vars + 1), .int .i64 (-vars - 1), .int .i64 (-9223372036854775808)] 3))) := by
  have hg := h.lt
  refine cur_among (-9223372036854775808) 14 w1.heap.size 0 4 4 A g ca cl cc _ (h.grow (bal (bb _) _)) (by omega) (by decide) (by decide) (ints_new rfl fun j hj => ?_) (by omega)
  match j, hj with
  | 0, _ => exact ⟨_, rfl, by decide, by decide⟩
  | 1, _ => exact ⟨_, rfl, by omega, by omega⟩
  | 2, _ => exact ⟨_, rfl, by omega, by omega⟩
  | 3, _ => exact ⟨_, rfl, by decide, by decide⟩
def AllI (c : List Int) : Prop := ∀ x ∈ c, I64 x
theorem rowPost_of {n : Nat} {R : List Int → Prop} {A A0 g : Nat} {ca : Option Addr} {cl cc : Nat} {w w' : World} {ps : List Asn} {i : Nat} {B : Option Addr} {cap : Nat} {c : List Int} (h : CS w g ca cl cc A0 w' ps)
    (hi : ps[i]? = some (Own 3 1 (.slice B c.length cap) c.length (c.map (.int .i64)))) (hl : c.length ≤ n) (hR : R c) (hA : A0 ≤ A) : RowPost n R A g ca cl cc w (.returned (.slice B c.length cap)) w' :=
  ⟨_, c, rfl, h.owns_end hi, hl, hR, h.cur.mono hA, h.chg⟩

set_option maxRecDepth 100000 in
set_option maxHeartbeats 8000000 in
theorem cur_anyClause (vars : Int) (hv : -1 ≤ vars ∧ vars ≤ 13) (A g : Nat) (ca : Option Addr) (cl cc : Nat) (w : World) (h : CurIs A g ca cl cc w) (hA : A ≤ 50000000) :
    Calls Tryz.prog 76 #[.pointer (some ⟨g, 0, none⟩), .int .i64 vars] w (RowPost 5 AllI (A + 80) g ca cl cc w) := by
  have hg := h.lt
  have S0 := Lib.hid (CS.start h)
  have w1' : IntKind.i64.wrap (vars + 1) = vars + 1 := IntWalk.i64_in _ (by omega)
  have w2' : IntKind.i64.wrap (-vars) = -vars := IntWalk.i64_in _ (by omega)
  have w3' : IntKind.i64.wrap (-vars - 1) = -vars - 1 := IntWalk.i64_in _ (by omega)
  go_enter Tryz.func76, Tryz.ntmps76
  go_wp2_with fail
  refine (cur_clause vars hv A g ca cl cc w h (by omega)).mono ?_
  rintro e w1 ⟨v, c, rfl, ho, hl, hW, hi1, hc1⟩
  have hne := owns_ge ho
  obtain ⟨B, cap, rfl⟩ := own_slice ho
  have hI := Lib.hid (hW.i64 (by decide))
  have S1 : Hid (CS w g ca cl cc (A + 60) w1 [Own 3 1 (.slice B c.length cap) c.length (c.map (.int .i64))]) := by
    refine ⟨⟨A, h⟩, hi1, hc1, _, ⟨(Value.slice B c.length cap).ownBlock.toList, [], by rw [List.append_nil], by simp, ⟨rfl, owns_zero ho⟩, rfl⟩, fun b hb => ?_⟩
    exact hne b (by simpa using hb)
  clear ho hW hi1 hc1 hne S0
  have hcur := Lib.hid S1.out.cur
  go_wp2_with fail
  refine (cur_pick_at (lo := 0) (hi := 31) hcur.out (by omega) (by omega) (by omega) (by omega) (by omega)).mono ?_
  rintro e w2 ⟨_, ⟨x, hx0, hx1, rfl⟩, rfl, hi2, hc2⟩
  have S2 := Lib.hid (S1.out.turn hi2 hc2)
  clear S1 hcur hi2 hc2
  have hx5 : x = 0 ∨ x = 1 ∨ x = 2 ∨ 2 < x := by omega
  rcases hx5 with rfl | rfl | rfl | hx5
  · have hlit := Lib.hid (cur_lit13 vars hv _ g ca cl cc _ S2.out.cur (by omega))
    obtain ⟨i0, hi0, hz0, hz1, hz2⟩ := info_parts infoInt
    go_wp2_with fail
    refine hlit.out.mono ?_
    rintro e w3 ⟨_, ⟨z, hz3, hz4, rfl⟩, rfl, hi3, hc3⟩
    have S3 := (S2.out.turn hi3 hc3).alloc_box #[.int .i64 z] 3
    have kB := S3.cell (i := 0) rfl (o := 0) rfl
    replace S3 := Lib.hid S3
    clear S2 hlit hi3 hc3
    go_wp2_with (at_builtin; refine wpList_append_src rfl _ _ rfl Tryz.underlying35 hi0 hz0 hz1 hz2 rfl (by decide) _ _ _ rfl (S3.out.own (i := 1) rfl) _ 1 1 [.int .i64 z] rfl (Src.one kB) (by simp [Value.oneCell']) ?c3 ?c4 ?_)
    case c3 => unfold maxLen; omega
    case c4 => omega
    intro vY wY hownY hgY hatY
    have S4 := (S3.out.own_push (i := 1) rfl (bb _) hownY hgY (by simpa using hatY)).tail
    obtain ⟨aY, cY, rfl⟩ := own_slice hownY
    have hlen : c.length + 1 = (c ++ [z]).length := by simp
    have hI2 : AllI (c ++ [z]) := fun y hy => by
      rcases List.mem_append.1 hy with hy | hy
      · exact hI.out y hy
      · obtain rfl : y = z := by simpa using hy
        unfold I64; omega
    have S5 : CS w g ca cl cc (A + 60 + 10 + 8) wY [Own 3 1 (.slice aY (c ++ [z]).length cY) (c ++ [z]).length ((c ++ [z]).map (.int .i64))] := by
      rw [← hlen, List.map_append]; exact S4.mono (by omega)
    have hl2 : (c ++ [z]).length ≤ 5 := by omega
    rw [hlen]
    generalize c ++ [z] = c2 at *
    have hP := Lib.hid (rowPost_of (n := 5) (R := AllI) (A := A + 80) S5 (i := 0) rfl hl2 hI2 (by omega))
    clear S3 S4 S5 hlen hI2 hl2 kB hownY hgY hatY
    go_wp2_with fail
    go_ret
    exact hP.out
  · by_cases hl0 : 0 < c.length
    · have d0 : decide ((0 : Int) < (c.length : Int)) = true := decide_eq_true (by omega)
      have hcall := Lib.hid (among_four S2.out.cur hv (by omega))
      go_wp2_with fail
      refine hcall.out.mono ?_
      rintro e w3 ⟨_, ⟨z, hz3, hz4, rfl⟩, rfl, hi3, hc3⟩
      have S3 := (S2.out.alloc _).turn hi3 hc3
      obtain ⟨gx, cap', cur, e1, -, hh, -, -, -, ht⟩ := own_block (S3.own (i := 0) rfl) hl0
      simp only [Value.slice.injEq] at e1
      obtain ⟨rfl, -, rfl⟩ := e1
      have hcx := (own_at hh ht (o := 0) (by omega)).1
      have hfx := (own_at hh ht (o := 0) (by omega)).2
      have S4 := S3.own_put (i := 0) rfl (.int .i64 z) (o := 0) (by omega)
      have hI2 : AllI (c.set 0 z) := fun y hy => by
        rcases List.mem_or_eq_of_mem_set hy with hy | rfl
        · exact hI.out y hy
        · unfold I64; omega
      have hlen : (c.set 0 z).length = c.length := by simp
      have S5 : CS w g ca cl cc (A + 80) (w3.setCell ⟨gx, 0, none⟩ (.int .i64 z)) [Own 3 1 (.slice (some ⟨gx, 0, none⟩) (c.set 0 z).length cap) (c.set 0 z).length ((c.set 0 z).map (.int .i64))] := by
        rw [hlen, List.map_set]; exact S4.mono (by omega)
      have hP := rowPost_of (n := 5) (R := AllI) (A := A + 80) S5 (i := 0) rfl (by omega) hI2 (by omega)
      rw [hlen] at hP
      replace hP := Lib.hid hP
      have hcx' : ∃ u, w3.cell? ⟨gx, 0, none⟩ = some u := by
        rw [hcx]
        exact ⟨_, List.getElem?_eq_getElem (by simp; omega)⟩
      obtain ⟨u, hu⟩ := hcx'
      clear S2 S3 S4 S5 hI2 hh ht hcx hi3 hc3 hcall hlen
      go_wp2_with fail
      go_ret
      exact hP.out
    · have d0 : decide ((0 : Int) < (c.length : Int)) = false := decide_eq_false (by omega)
      have hP := Lib.hid (rowPost_of (n := 5) (R := AllI) (A := A + 80) S2.out (i := 0) rfl (by omega) hI.out (by omega))
      clear S2
      go_wp2_with fail
      go_ret
      exact hP.out
  · by_cases hl0 : 1 < c.length
    · have d0 : decide ((1 : Int) < (c.length : Int)) = true := decide_eq_true (by omega)
      obtain ⟨gx, cap', cur, e1, -, hh, -, -, -, ht⟩ := own_block (S2.out.own (i := 0) rfl) (by omega)
      simp only [Value.slice.injEq] at e1
      obtain ⟨rfl, -, rfl⟩ := e1
      obtain ⟨x0, hx0'⟩ : ∃ z, (c.map (Value.int .i64))[0]? = some (.int .i64 z) ∧ c[0]? = some z := ⟨c[0], by rw [List.getElem?_map, List.getElem?_eq_getElem]; rfl, List.getElem?_eq_getElem _⟩
      obtain ⟨x1, hx1'⟩ : ∃ z, (c.map (Value.int .i64))[1]? = some (.int .i64 z) ∧ c[1]? = some z := ⟨c[1], by rw [List.getElem?_map, List.getElem?_eq_getElem]; rfl, List.getElem?_eq_getElem _⟩
      have k0 := (own_at hh ht (o := 0) (by omega)).1.trans hx0'.1
      have k1 := (own_at hh ht (o := 1) (by omega)).1.trans hx1'.1
      have f0 := (own_at hh ht (o := 0) (by omega)).2
      have f1 := (own_at hh ht (o := 1) (by omega)).2
      have S3 := S2.out.own_put (i := 0) rfl (.int .i64 x1) (o := 0) (by omega)
      have S4 := S3.own_put (i := 0) rfl (.int .i64 x0) (o := 1) (by omega)
      have hI2 : AllI ((c.set 0 x1).set 1 x0) := fun y hy => by
        rcases List.mem_or_eq_of_mem_set hy with hy | rfl
        · rcases List.mem_or_eq_of_mem_set hy with hy | rfl
          · exact hI.out y hy
          · exact hI.out _ (List.mem_of_getElem? hx1'.2)
        · exact hI.out _ (List.mem_of_getElem? hx0'.2)
      have hlen : ((c.set 0 x1).set 1 x0).length = c.length := by simp
      have S5 : CS w g ca cl cc (A + 80) ((w2.setCell ⟨gx, 0, none⟩ (.int .i64 x1)).setCell ⟨gx, 1, none⟩ (.int .i64 x0)) [Own 3 1 (.slice (some ⟨gx, 0, none⟩) ((c.set 0 x1).set 1 x0).length cap) ((c.set 0 x1).set 1 x0).length (((c.set 0 x1).set 1 x0).map (.int .i64))] := by
        rw [hlen, List.map_set, List.map_set]; exact S4.mono (by omega)
      have hP := rowPost_of (n := 5) (R := AllI) (A := A + 80) S5 (i := 0) rfl (by omega) hI2 (by omega)
      rw [hlen] at hP
      replace hP := Lib.hid hP
      have hI64a : I64 x0 := hI.out _ (List.mem_of_getElem? hx0'.2)
      have hI64b : I64 x1 := hI.out _ (List.mem_of_getElem? hx1'.2)
      clear S2 S3 S4 S5 hI2 hh ht hlen hx0' hx1'
      go_wp2_with fail
      go_ret
      exact hP.out
    · have d0 : decide ((1 : Int) < (c.length : Int)) = false := decide_eq_false (by omega)
      have hP := Lib.hid (rowPost_of (n := 5) (R := AllI) (A := A + 80) S2.out (i := 0) rfl (by omega) hI.out (by omega))
      clear S2
      go_wp2_with fail
      go_ret
      exact hP.out
  · have x0 : (x == 0) = false := by simp; omega
    have x1 : (x == 1) = false := by simp; omega
    have x2 : (x == 2) = false := by simp; omega
    have hP := Lib.hid (rowPost_of (n := 5) (R := AllI) (A := A + 80) S2.out (i := 0) rfl (by omega) hI.out (by omega))
    clear S2
    go_wp2_with fail
    go_ret
    exact hP.out
end Go.Proofs.YtahbepajeplcmaaGreat
