/- Lemmas and contracts for a law, put together out of several texts: CoF CoG SdJ SdK SdL SdM SdN SdO PlB. -/
import Derived.Test.YtmikconjhmhekaaMg5
import Derived.Test.YtmikconjhmhekaaMg6
import Derived.Test.YtmikconjhmhekaaMg3
import Derived.Shelf.Spec.SlicesGrow
import Derived.Test.YtmikconjhmhekaaMg4
import Derived.Test.YtmikconjhmhekaaMg1
/- Contract: the core of a Cnf, in the program. -/
namespace Go.Proofs.Ytmikconjhmhekaa
open Go.RowKit

theorem own_cap' {w : World} {B : Nat} {e : TypeId} {size n c : Nat} {A : Option Addr} {xs : List Value} (h : w.ownsRow B e size (.slice A n c) n xs) : n ≤ c := by
  obtain ⟨_, ⟨h1, _⟩ | ⟨g, cap, cur, h1, _, _, hn, _⟩⟩ := h
  · cases h1; exact Nat.le_refl _
  · cases h1; exact hn

set_option maxRecDepth 100000 in
set_option maxHeartbeats 8000000 in
theorem implCoreOf_any (vars : Int) (v : Value) (xss : List (List Int)) (F : List Nat) (w : World) (hx : (Ty.slice Ty.int).row false w v xss F) :
    Calls Try.prog 26 #[.agg #[.int .i64 vars, v]] w (IAnsC w (coreOk vars.toNat vars xss) (if coreOk vars.toNat vars xss then ofN (coreL vars.toNat xss) else [])) := by
  obtain ⟨A, cap, rfl, hI⟩ := cls_row hx
  have S0 := (Sp.start w).alloc_box #[.int .i64 vars, .slice A xss.length cap] 26
  have hcall := Lib.hid (implIsCnf_any vars _ xss F _ (Ty.row_below hx S0.below (Ty.row_lt hx)))
  replace S0 := Lib.hid S0
  have c0 := S0.out.cell (i := 0) rfl (o := 0) rfl
  have c1 := S0.out.cell (i := 0) rfl (o := 1) rfl
  clear hx
  cases h1 : goodB vars xss
  · rw [h1] at hcall
    rw [show coreOk vars.toNat vars xss = false by unfold coreOk; rw [h1]; rfl]
    go_enter Try.func26, Try.ntmps26
    go_wp2_with fail
    refine hcall.out.mono ?_
    rintro e w1 ⟨rfl, hb1⟩
    have hB := Lib.hid (S0.out.grow hb1).below
    clear hcall S0 c0 c1 hb1
    go_wp2_with fail
    go_ret2
    exact ⟨none, 0, rfl, ⟨fun j hj => by simp at hj, fun c hc => by simp at hc⟩, by simp, hB.out⟩
  have hg := good_cnf h1
  rw [h1] at hcall
  obtain ⟨n, rfl⟩ := Int.eq_ofNat_of_zero_le hg.1.1
  rw [show (n : Int).toNat = n by omega]
  have hn : n ≤ 12 := by omega
  have hsat := Lib.hid (fun W hb => satisfiable_any n hn xss hg.2.2.2 (by omega) A cap W (hI.grow hb))
  have hok : coreOk n n xss = !(List.range (2 ^ n)).any (modT xss) := by unfold coreOk; rw [h1, Bool.true_and]
  rw [hok]
  have hall := core_all (n := n) (xss := xss)
  have hl60 := hg.2.1
  cases hq : (List.range (2 ^ n)).any (modT xss)
  case true =>
    rw [hq] at hsat
    go_enter Try.func26, Try.ntmps26
    go_wp2_with fail
    refine hcall.out.mono ?_
    rintro e w1 ⟨rfl, hb1⟩
    have S1 := Lib.hid (S0.out.grow hb1)
    clear hcall S0 c0 c1 hb1
    have c0 := S1.out.cell (i := 0) rfl (o := 0) rfl
    have c1 := S1.out.cell (i := 0) rfl (o := 1) rfl
    go_wp2_with fail
    refine (hsat.out _ S1.out.below).mono ?_
    rintro e w2 ⟨rfl, hb2⟩
    have hB := Lib.hid (S1.out.grow hb2).below
    clear hsat S1 c0 c1 hb2
    go_wp2_with fail
    go_ret2
    exact ⟨none, 0, rfl, ⟨fun j hj => by simp at hj, fun c hc => by simp at hc⟩, by simp, hB.out⟩
  case false =>
    rw [hq] at hsat hall
    have hx0 : 0 < xss.length := by
      rcases Nat.eq_zero_or_pos xss.length with h | h
      · obtain rfl : xss = [] := List.length_eq_zero_iff.1 h
        have := List.any_eq_false.1 hq 0 (List.mem_range.2 (Nat.two_pow_pos n))
        simp [modT] at this
      · exact h
    have hic := Lib.hid (fun is (hi : AscN xss.length is) D dc W (h : Below w.heap.size w W) (hy : IntsAt W D (ofN is)) => isCore_any n hn xss hg.2.2.2 is hi.2 (by have := asc_len hi; omega) A D cap dc W (hI.grow h) hy)
    have hcL : Hid (coreGo (coreB n xss) [] (List.range' 0 (xss.length - 0)) = coreL n xss) := by unfold Hid coreL; rw [Nat.sub_zero, List.range_eq_range']
    have has0 : Hid (AscN xss.length ([] ++ List.range' 0 (xss.length - 0))) := by
      unfold Hid
      rw [Nat.sub_zero, List.nil_append, ← List.range_eq_range']
      exact range_asc _
    obtain ⟨P, hP⟩ : ∃ P, coreB n xss = P := ⟨_, rfl⟩
    rw [hP] at hcL
    simp only [hP] at hic
    generalize coreL n xss = CL at *
    simp only [Bool.not_false, if_true]
    have hclen : Hid (∀ x ∈ ofN CL, I64 x) := by
      unfold Hid
      refine ofN_ok (m := xss.length) (by omega) ?_
      rw [← hcL.out]
      have := coreGo_sub P (List.range' 0 (xss.length - 0)) []
      exact has0.out.sub this
    obtain ⟨m, hm⟩ : ∃ m, xss.length = m := ⟨_, rfl⟩
    rw [hm] at S0 c1 hcall hsat hic hcL has0 hx0 hl60 ⊢
    clear hI hg h1 hall hq hok hP
    replace hm := Lib.hid hm
    go_enter Try.func26, Try.ntmps26
    go_wp2_with fail
    refine hcall.out.mono ?_
    rintro e w1 ⟨rfl, hb1⟩
    have S1 := Lib.hid (S0.out.grow hb1)
    clear hcall S0 c0 c1 hb1
    have c0 := S1.out.cell (i := 0) rfl (o := 0) rfl
    have c1 := S1.out.cell (i := 0) rfl (o := 1) rfl
    go_wp2_with fail
    refine (hsat.out _ S1.out.below).mono ?_
    rintro e w2 ⟨rfl, hb2⟩
    have S2 := Lib.hid (S1.out.grow hb2)
    clear hsat S1 c0 c1 hb2
    have c1 := S2.out.cell (i := 0) rfl (o := 1) rfl
    go_wp2_with fail
    refine (upTo_any m (by omega) _).mono ?_
    rintro e w3 ⟨B, c, rfl, T3⟩
    rw [← decL_zero] at T3
    obtain ⟨gb, cap', cur, e1, -⟩ := own_block (T3.own (i := 0) rfl) hx0
    simp only [Value.slice.injEq] at e1
    obtain ⟨rfl, -, rfl⟩ := e1
    have S3 : Hid (Sp w w3 [Own 3 1 (.slice (some ⟨gb, 0, none⟩) m c) m (decL m 0), Box w.heap.size 26 #[.int .i64 n, .slice A m cap]]) := S2.out.seq T3
    clear S2 T3 c1
    go_wp2_with fail
    go_loopw [5, 24] (fun _ vi wr => ∃ k : Nat, k ≤ m ∧ vi = .int .i64 k ∧ Hid (Sp w wr [Own 3 1 (.slice (some ⟨gb, 0, none⟩) m c) m (decL m k), Box w.heap.size 26 #[.int .i64 n, .slice A m cap]])) (fun _ vi _ => m - (intOf vi).toNat)
    case atStart => exact ⟨0, Nat.zero_le _, rfl, S3⟩
    case round =>
      obtain ⟨k, hk, rfl, HS⟩ := hrel
      clear S3
      by_cases hlt : k < m
      · obtain ⟨g', cap', cur, e1, -, hh, -, -, -, ht⟩ := own_block (HS.out.own (i := 0) rfl) hx0
        simp only [Value.slice.injEq, Option.some.injEq, Addr.mk.injEq] at e1
        obtain ⟨⟨rfl, -⟩, -, rfl⟩ := e1
        have m0 := (own_at hh ht (o := k) (by omega)).1.trans (decL_at hlt)
        have f0 := (own_at hh ht (o := k) (by omega)).2
        have hw1 : IntKind.i64.wrap ((k : Int) + 1 - 1) = (k : Int) := by rw [IntWalk.i64_in _ (by omega)]; omega
        have S4 := HS.out.own_put (i := 0) rfl (.int .i64 (k : Int)) (o := k) (by omega)
        rw [decL_set hlt] at S4
        replace S4 := Lib.hid S4
        clear HS hh ht
        go_wp2_with fail
        go_roundw
        case rel => exact ⟨k + 1, by omega, by go_num, S4⟩
        case measure => simp [intOf]; omega
      · obtain rfl : k = m := by omega
        have S4 : Hid (Sp w wr [Own 3 1 (.slice (some ⟨gb, 0, none⟩) ([] ++ List.range' 0 (k - 0)).length c) ([] ++ List.range' 0 (k - 0)).length ((ofN ([] ++ List.range' 0 (k - 0))).map (.int .i64)), Box w.heap.size 26 #[.int .i64 n, .slice A k cap]]) := by
          unfold Hid
          have := HS.out
          rw [decL_all, List.range_eq_range'] at this
          simpa using this
        have hkl : ([] ++ List.range' 0 (k - 0) : List Nat).length = k := by simp
        have c1 := HS.out.cell (i := 1) rfl (o := 1) rfl
        clear HS
        go_wp2_with fail
        go_loopw [4, 6, 7, 37] (fun vc _ _ vi wx => ∃ (i l : Nat) (kept : List Nat) (B : Option Addr) (cc : Nat), i ≤ k ∧ l ≤ k ∧ vi = .int .i64 i ∧ vc = .slice B l cc ∧ Hid ((kept ++ List.range' i (k - i)).length = l) ∧ Hid (coreGo P kept (List.range' i (k - i)) = CL) ∧ Hid (AscN k (kept ++ List.range' i (k - i))) ∧
          Hid (Sp w wx [Own 3 1 (.slice B l cc) l ((ofN (kept ++ List.range' i (k - i))).map (.int .i64)), Box w.heap.size 26 #[.int .i64 n, .slice A k cap]])) (fun _ _ _ vi _ => k - (intOf vi).toNat)
        case atStart => exact ⟨0, k, [], _, c, Nat.zero_le _, Nat.le_refl _, rfl, rfl, hkl, hcL, has0, by rw [hkl] at S4; exact S4⟩
        case round =>
          obtain ⟨i, l, kept, B, cc, hi, hl, rfl, rfl, hkl2, hgo, has, HS⟩ := hrel
          clear S4 hcL has0 c1 hkl
          by_cases hlt2 : i < k
          · have hrf := range_front hlt2
            have hasH := has.out
            have hgoH := hgo.out
            have hklH := hkl2.out
            have hSH := HS.out
            rw [hrf] at hasH hgoH hklH hSH
            obtain ⟨rest, hrest⟩ : ∃ r, List.range' (i + 1) (k - (i + 1)) = r := ⟨_, rfl⟩
            rw [hrest] at hasH hgoH hklH hSH
            have hoI := ofN_ok (by omega) hasH
            have hol : (ofN (kept ++ i :: rest)).length = l := by rw [ofN_len]; exact hklH
            have hown := hSH.own (i := 0) rfl
            rw [← hol] at hown
            obtain ⟨B', c', e1, hT⟩ := ints_own hown hoI
            simp only [Value.slice.injEq] at e1
            obtain ⟨rfl, -, rfl⟩ := e1
            have hkn : kept.length < l := by rw [← hklH]; simp
            have hidx := indexI_any B l cc kept.length _ (i : Int) wr hT hol (by omega) mid_at (mid_no hasH)
            have hwo := withoutI_any B l cc kept.length _ wr hT hol (by omega) hkn
            rw [ofN_erase] at hwo
            have has2 : AscN k (kept ++ rest) := hasH.sub (List.Sublist.append_left (List.sublist_cons_self _ _) _)
            have hlen2 : (kept ++ rest).length = l - 1 := by rw [← hklH]; simp
            have hlen3 : ((kept ++ [i]) ++ rest).length = l := by rw [← hklH]; simp
            have hl2 : (ofN (kept ++ rest)).length = l - 1 := by rw [ofN_len]; exact hlen2
            have hS3 : Sp w wr [Own 3 1 (.slice B l cc) l ((ofN ((kept ++ [i]) ++ rest)).map (.int .i64)), Box w.heap.size 26 #[.int .i64 n, .slice A k cap]] := by
              rw [List.append_assoc]; exact hSH
            have has3 : AscN k ((kept ++ [i]) ++ rest) := by rw [List.append_assoc]; exact hasH
            have hyes := fun (h : P (kept ++ rest) = true) => (coreGo_yes h).symm.trans hgoH
            have hno := fun (h : P (kept ++ rest) = false) => (coreGo_no h).symm.trans hgoH
            replace hidx := Lib.hid hidx
            replace hwo := Lib.hid hwo
            replace hyes := Lib.hid hyes
            replace hno := Lib.hid hno
            replace has2 := Lib.hid has2
            replace has3 := Lib.hid has3
            replace hS3 := Lib.hid hS3
            replace hlen2 := Lib.hid hlen2
            replace hlen3 := Lib.hid hlen3
            replace hl2 := Lib.hid hl2
            have hoI2 := Lib.hid (ofN_ok (by omega) has2.out)
            replace hrest := Lib.hid hrest
            obtain ⟨kl, hkle⟩ : ∃ kl, kept.length = kl := ⟨_, rfl⟩
            rw [hkle] at hidx hwo hkn
            replace hkle := Lib.hid hkle
            clear hrf hasH hgoH hklH hSH hgo has hkl2 HS hoI hol hown hT
            have c1 := hS3.out.cell (i := 1) rfl (o := 1) rfl
            go_wp2_with fail
            refine hidx.out.mono ?_
            rintro e w4 ⟨rfl, hww⟩
            subst hww
            go_wp2_with fail
            refine hwo.out.mono ?_
            rintro e w5 ⟨B5, c5, rfl, T5⟩
            have S5 := hS3.out.seq T5
            have hown5 := S5.own (i := 0) rfl
            rw [← hl2.out] at hown5
            obtain ⟨B', c', e1, hT5⟩ := ints_own hown5 hoI2.out
            rw [hl2.out] at e1
            simp only [Value.slice.injEq] at e1
            obtain ⟨rfl, -, rfl⟩ := e1
            have hcc := hic.out _ has2.out B5 c5 w5 S5.below hT5
            rw [hlen2.out] at hcc
            have d0 := S5.cell (i := 2) rfl (o := 0) rfl
            have d1 := S5.cell (i := 2) rfl (o := 1) rfl
            replace S5 := Lib.hid S5
            replace hcc := Lib.hid hcc
            obtain ⟨q, hqq⟩ : ∃ q, P (kept ++ rest) = q := ⟨_, rfl⟩
            rw [hqq] at hcc
            replace hqq := Lib.hid hqq
            clear hidx hwo hS3 T5 hown5 hT5 c1
            go_wp2_with fail
            refine hcc.out.mono ?_
            rintro e w6 ⟨rfl, hb6⟩
            have S6 := Lib.hid (S5.out.grow hb6)
            clear hcc S5 hb6 d0 d1
            cases q
            · have hgo2 := hno.out hqq.out
              rw [← hrest.out] at hgo2
              replace hgo2 := Lib.hid hgo2
              have hl3 := hlen3.out
              rw [← hrest.out] at hl3
              replace hl3 := Lib.hid hl3
              have ha3 := has3.out
              rw [← hrest.out] at ha3
              replace ha3 := Lib.hid ha3
              have S7 : Hid (Sp w w6 [Own 3 1 (.slice B l cc) l ((ofN ((kept ++ [i]) ++ List.range' (i + 1) (k - (i + 1)))).map (.int .i64)), Box w.heap.size 26 #[.int .i64 n, .slice A k cap]]) := by
                unfold Hid; rw [hrest.out]; exact S6.out.tail
              clear S6 hno hyes hlen2 hlen3 hl2 has2 has3
              go_wp2_with fail
              go_roundw
              case rel => exact ⟨i + 1, l, kept ++ [i], B, cc, by omega, hl, by go_num, rfl, hl3, hgo2, ha3, S7⟩
              case measure => simp [intOf]; omega
            · have hgo2 := hyes.out hqq.out
              rw [← hrest.out] at hgo2
              replace hgo2 := Lib.hid hgo2
              have hl3 := hlen2.out
              rw [← hrest.out] at hl3
              replace hl3 := Lib.hid hl3
              have ha3 := has2.out
              rw [← hrest.out] at ha3
              replace ha3 := Lib.hid ha3
              have S7 : Hid (Sp w w6 [Own 3 1 (.slice B5 (l - 1) c5) (l - 1) ((ofN (kept ++ List.range' (i + 1) (k - (i + 1)))).map (.int .i64)), Box w.heap.size 26 #[.int .i64 n, .slice A k cap]]) := by
                unfold Hid; rw [hrest.out]; exact Sp.pick [0, 1] S6.out rfl
              clear S6 hno hyes hlen2 hlen3 hl2 has2 has3
              go_wp2_with fail
              go_roundw
              case rel => exact ⟨i + 1, l - 1, kept, B5, c5, by omega, by omega, by go_num, rfl, hl3, hgo2, ha3, S7⟩
              case measure => simp [intOf]; omega
          · obtain rfl : i = k := by omega
            have hgo2 := hgo.out
            have hkl3 := hkl2.out
            have hS3 := HS.out
            rw [Nat.sub_self, List.range'_zero] at hgo2 hkl3 hS3
            rw [coreGo] at hgo2
            subst hgo2
            rw [List.append_nil] at hkl3 hS3
            have hol : (ofN kept).length = l := by rw [ofN_len]; exact hkl3
            have hown := hS3.own (i := 0) rfl
            have hcap := Lib.hid (own_cap' hown)
            rw [← hol] at hown
            obtain ⟨B', c', e1, hT⟩ := ints_own hown hclen.out
            rw [hol] at e1
            simp only [Value.slice.injEq] at e1
            obtain ⟨rfl, -, rfl⟩ := e1
            have hB := Lib.hid hS3.below
            replace hT := Lib.hid hT
            replace hol := Lib.hid hol
            clear hS3 HS hown hkl3 hkl2 hgo has
            go_wp2_with fail
            go_ret2
            exact ⟨B, cc, by first | (rw [hol.out]; rfl) | rw [hol.out], hT.out, by rw [hol.out]; exact hcap.out, hB.out⟩
end Go.Proofs.Ytmikconjhmhekaa

/- Contracts: lists of indices and the core of a Cnf, in the reference. -/
namespace Go.Proofs.Ytmikconjhmhekaa
open Go.RowKit

theorem ints_src {w : World} {A : Option Addr} {xs : List Int} {n : Nat} (hx : IntsAt w A xs) (hn : xs.length = n) : Src w A n 1 (xs.map (.int .i64)) := by
  rcases Nat.eq_zero_or_pos n with h0 | h0
  · exact .inl ⟨h0, by rw [List.length_eq_zero_iff.1 (hn.trans h0)]; rfl⟩
  · obtain ⟨b, off, rfl, -⟩ := hx.at_ 0 (by omega)
    refine .inr ⟨_, rfl, by simp [hn], fun j u hu => ?_⟩
    rw [List.getElem?_map] at hu
    have hj : j < xs.length := by
      rcases Nat.lt_or_ge j xs.length with h | h
      · exact h
      · rw [List.getElem?_eq_none h] at hu; cases hu
    rw [List.getElem?_eq_getElem hj] at hu
    simp only [Option.map_some, Option.some.injEq] at hu
    rw [add_none, hx.get hj, hu]
theorem ints_one_cell {xs : List Int} : ∀ u ∈ xs.map (Value.int .i64), u.oneCell' = true := fun u hu => by
  obtain ⟨x, -, rfl⟩ := List.mem_map.1 hu
  rfl

set_option maxRecDepth 100000 in
set_option maxHeartbeats 4000000 in
theorem l5Skip_any (A : Option Addr) (n cap k : Nat) (xs : List Int) (w : World) (hx : IntsAt w A xs) (hn : xs.length = n) (hl : n ≤ 1000000) (hk : k < n) (hcap : n ≤ cap) :
    Calls Try.prog 115 #[.slice A n cap, .int .i64 k] w fun e w' => ∃ B c, e = .returned (.slice B (n - 1) c) ∧ Sp w w' [Own 3 1 (.slice B (n - 1) c) (n - 1) ((xs.eraseIdx k).map (.int .i64))] := by
  obtain ⟨i0, hi, hz0, hz1, hz2⟩ := info_parts infoInt
  obtain ⟨b, off, rfl, -⟩ := hx.at_ 0 (by omega)
  have hsr := ints_src hx hn
  have h1 := Lib.hid (hsr.to (k := k) (by omega))
  have h2 := Lib.hid (hsr.from (cap := cap) (k := k + 1) (by omega) hcap)
  have o1 : Hid (∀ u ∈ (xs.map (Value.int .i64)).take (k * 1), u.oneCell' = true) := fun u hu => ints_one_cell u (List.mem_of_mem_take hu)
  have o2 : Hid (∀ u ∈ (xs.map (Value.int .i64)).drop ((k + 1) * 1), u.oneCell' = true) := fun u hu => ints_one_cell u (List.mem_of_mem_drop hu)
  have hres : Hid ((xs.map (Value.int .i64)).take (k * 1) ++ (xs.map (Value.int .i64)).drop ((k + 1) * 1) = (xs.eraseIdx k).map (.int .i64)) := by
    unfold Hid
    rw [Nat.mul_one, Nat.mul_one, List.eraseIdx_eq_take_drop_succ, List.map_append, List.map_take, List.map_drop]
  have hw1 : IntKind.i64.wrap ((k : Int) + 1) = ((k + 1 : Nat) : Int) := by rw [IntWalk.i64_in _ (by omega)]; rfl
  have S0 := Lib.hid ((Sp.start w).drew)
  generalize (xs.map (Value.int .i64)).take (k * 1) = l1 at *
  generalize (xs.map (Value.int .i64)).drop ((k + 1) * 1) = l2 at *
  clear hx hn hsr
  go_enter Try.func115, Try.ntmps115
  go_wp2_with fail
  refine wp_region_held_lit (S := (fun w' => True)) 11 [false, false, false, false, false, false, false, false, false, false, false] (by kernel_rfl) (by kernel_rfl) (by kernel_rfl) ?_ ?_
  · trivial
  intro hSc
  (refine wpAnyH_take (i := 1) (v := ?_) rfl (by kernel_rfl) (by kernel_rfl) (by kernel_rfl) (fun _ _ _ h => h) (Or.inl ⟨by rfl, ?_⟩) (by assumption) ?_; rotate_left; (focus (intro w hSw; (try dsimp only at hSw); go_simp; (try with_reducible rfl); done)); (try simp only [put_rules]))
  (refine wpAnyH_take (i := 2) (v := ?_) rfl (by kernel_rfl) (by kernel_rfl) (by kernel_rfl) (fun _ _ _ h => h) (Or.inl ⟨by rfl, ?_⟩) (by assumption) ?_; rotate_left; (focus (intro w hSw; (try dsimp only at hSw); go_simp; (try with_reducible rfl); done)); (try simp only [put_rules]))
  (refine wpAnyH_take (i := 3) (v := .slice _ k cap) rfl (by kernel_rfl) (by kernel_rfl) (by kernel_rfl) (fun _ _ _ h => h) (Or.inl ⟨by rfl, fun _ _ => exec_slice_to rfl rfl rfl Try.underlying30 hi (by omega)⟩) (by assumption) ?_; (try simp only [put_rules]))
  (refine wpAnyH_take (i := 5) (v := ?_) rfl (by kernel_rfl) (by kernel_rfl) (by kernel_rfl) (fun _ _ _ h => h) (Or.inl ⟨by rfl, ?_⟩) (by assumption) ?_; rotate_left; (focus (intro w hSw; (try dsimp only at hSw); go_simp; (try with_reducible rfl); done)); (try simp only [put_rules]))
  (refine wpAnyH_take (i := 6) (v := ?_) rfl (by kernel_rfl) (by kernel_rfl) (by kernel_rfl) (fun _ _ _ h => h) (Or.inl ⟨by rfl, ?_⟩) (by assumption) ?_; rotate_left; (focus (intro w hSw; (try dsimp only at hSw); go_simp; (try with_reducible rfl); done)); (try simp only [put_rules]))
  (refine wpAnyH_take (i := 7) (v := ?_) rfl (by kernel_rfl) (by kernel_rfl) (by kernel_rfl) (fun _ _ _ h => h) (Or.inl ⟨by rfl, ?_⟩) (by assumption) ?_; rotate_left; (focus (intro w hSw; (try dsimp only at hSw); go_simp; (try with_reducible rfl); done)); (try simp only [put_rules]))
  (refine wpAnyH_take (i := 8) (v := .slice (cutA _ cap (k + 1) 1) (n - (k + 1)) (cap - (k + 1))) rfl (by kernel_rfl) (by kernel_rfl) (by kernel_rfl) (fun _ _ _ h => h) (Or.inl ⟨by rfl, fun _ _ => exec_slice_from rfl rfl rfl Try.underlying30 hi hz1 (by omega)⟩) (by assumption) ?_; (try simp only [put_rules]))
  (refine wpAnyH_ready (rs := [0]) (by kernel_rfl) (by simp) ?_; refine AllReadyH.cons rfl (fun K hK => ?_) AllReadyH.nil)
  go_simp
  have S1 := S0.out.own_made 3 1
  replace S1 := Lib.hid S1
  clear S0
  refine hK.out _ _ trivial (fun hS1 => ?_)
  clear hK
  (try simp only [put_rules])
  (refine wpAnyH_ready (rs := [4]) (by kernel_rfl) (by simp) ?_; refine AllReadyH.cons rfl (fun K hK => ?_) AllReadyH.nil)
  (refine step_append_src rfl _ _ rfl Try.underlying30 hi hz0 hz1 hz2 rfl (by decide) _ 0 _ rfl (S1.out.own (i := 0) rfl) _ k cap l1 rfl (h1.out.grow S1.out.below) o1.out (by unfold maxLen; omega) (by omega) ?_; intro vA wA hownA hgA hatA)
  have S2 := S1.out.own_push (i := 0) rfl (bb _) hownA hgA hatA
  obtain ⟨aA, cA, rfl⟩ := owns_form hownA
  rw [Nat.zero_add, List.nil_append] at S2
  clear hownA hgA hatA
  simp only [Nat.zero_add]
  replace S2 := Lib.hid S2
  clear S1
  refine hK.out _ _ trivial (fun hS2 => ?_)
  clear hK
  (try simp only [put_rules])
  (refine wpAnyH_ready (rs := [9]) (by kernel_rfl) (by simp) ?_; refine AllReadyH.cons rfl (fun K hK => ?_) AllReadyH.nil)
  (refine step_append_src rfl _ _ rfl Try.underlying30 hi hz0 hz1 hz2 rfl (by decide) _ k _ rfl (S2.out.own (i := 0) rfl) _ (n - (k + 1)) (cap - (k + 1)) l2 rfl (h2.out.grow S2.out.below) o2.out (by unfold maxLen; omega) (by omega) ?_; intro vB wB hownB hgB hatB)
  have S3 := S2.out.own_push (i := 0) rfl (bb _) hownB hgB hatB
  obtain ⟨aB, cB, rfl⟩ := owns_form hownB
  rw [hres.out] at S3
  have hlen : k + (n - (k + 1)) = n - 1 := by omega
  rw [hlen] at S3
  rw [hlen]
  clear hownB hgB hatB hlen
  replace S3 := Lib.hid S3
  clear S2
  refine hK.out _ _ trivial (fun hS3 => ?_)
  clear hK
  (try simp only [put_rules])
  (refine wpAnyH_take (i := 10) (v := ?_) rfl (by kernel_rfl) (by kernel_rfl) (by kernel_rfl) (fun _ _ _ h => h) (Or.inl ⟨by rfl, ?_⟩) (by assumption) ?_; rotate_left; (focus (intro w hSw; (try dsimp only at hSw); go_simp; (try with_reducible rfl); done)); (try simp only [put_rules]))
  (refine wpAnyH_done (by kernel_rfl) ?_ _)
  go_wp2_with fail
  go_ret
  exact ⟨aB, cB, rfl, S3.out⟩

set_option maxRecDepth 100000 in
set_option maxHeartbeats 4000000 in
theorem l5Indices_any (vars : Int) (A : Option Addr) (n cap : Nat) (hn : n ≤ 1000) (w : World) :
    Calls Try.prog 114 #[.agg #[.int .i64 vars, .slice A n cap]] w fun e w' => ∃ B c, e = .returned (.slice B n c) ∧ Sp w w' [Own 3 1 (.slice B n c) n ((ofN (List.range n)).map (.int .i64))] := by
  have S0 := ((Sp.start w).alloc_box #[.int .i64 vars, .slice A n cap] 26).own_made 3 1
  simp only [World.size_alloc] at S0
  replace S0 := Lib.hid S0
  obtain ⟨i0, hi, hz0, hz1, hz2⟩ := info_parts infoInt
  go_enter Try.func114, Try.ntmps114
  go_wp2_with fail
  go_loopw [3, 4] (fun vo vi wr => ∃ (k : Nat) (B : Option Addr) (cc : Nat), k ≤ n ∧ vi = .int .i64 k ∧ vo = .slice B k cc ∧ Hid (Sp w wr [Own 3 1 (.slice B k cc) k ((ofN (List.range k)).map (.int .i64)), Box w.heap.size 26 #[.int .i64 vars, .slice A n cap]])) (fun _ vi _ => n - (intOf vi).toNat)
  case atStart => exact ⟨0, _, _, Nat.zero_le _, rfl, rfl, S0⟩
  case round =>
    obtain ⟨k, B, cc, hk, rfl, rfl, HS⟩ := hrel
    clear S0
    have c1 := HS.out.cell (i := 1) rfl (o := 1) rfl
    by_cases hlt : k < n
    · have hsn : Hid ((ofN (List.range (k + 1))).map (Value.int .i64) = (ofN (List.range k)).map (Value.int .i64) ++ [.int .i64 (k : Int)]) := by
        unfold Hid ofN; rw [List.range_succ, List.map_append, List.map_append]; rfl
      have S2 := HS.out.alloc_box #[.int .i64 (k : Int)] 3
      have kB := S2.cell (i := 0) rfl (o := 0) rfl
      replace S2 := Lib.hid S2
      clear HS
      go_wp2_with (at_builtin; refine wpList_append_src rfl _ _ rfl Try.underlying30 hi hz0 hz1 hz2 rfl (by decide) _ _ _ rfl (S2.out.own (i := 1) rfl) _ 1 1 [.int .i64 (k : Int)] rfl (Src.one kB) (by simp [Value.oneCell']) ?c3 ?c4 ?_)
      case c3 => unfold maxLen; omega
      case c4 => omega
      intro vY wY hownY hgY hatY
      have S4 := (S2.out.own_push (i := 1) rfl (bb _) hownY hgY (by simpa using hatY)).tail
      obtain ⟨aY, cY, rfl⟩ := own_slice hownY
      have HS3 : Hid (Sp w wY [Own 3 1 (.slice aY (k + 1) cY) (k + 1) ((ofN (List.range (k + 1))).map (.int .i64)), Box w.heap.size 26 #[.int .i64 vars, .slice A n cap]]) := by
        unfold Hid; rw [hsn.out]; exact S4
      clear S2 S4 kB hownY hgY hatY hsn c1
      go_wp2_with fail
      go_roundw
      case rel => exact ⟨k + 1, aY, cY, by omega, by go_num, rfl, HS3⟩
      case measure => simp [intOf]; omega
    · obtain rfl : k = n := by omega
      have S4 := Lib.hid (Sp.pick [0] HS.out rfl)
      clear HS
      go_wp2_with fail
      go_ret
      exact ⟨B, cc, rfl, S4.out⟩
end Go.Proofs.Ytmikconjhmhekaa

/- Contracts: Cnfs compared in the laws; rows and lists of rows copied, on both sides. -/
namespace Go.Proofs.Ytmikconjhmhekaa
open Go.RowKit

set_option maxRecDepth 100000 in
set_option maxHeartbeats 4000000 in
theorem vTable_same (A A' : Option Addr) (c c' : Nat) (xss : List (List Int)) (w : World) (hx : ClsAt w A xss) (hy : ClsAt w A' xss) (hl : xss.length ≤ 1000000) (hs : ∀ c ∈ xss, c.length ≤ 1000000) :
    Calls Try.prog 162 #[.slice A xss.length c, .slice A' xss.length c'] w fun e w' => e = .returned (.bool true) ∧ Below w.heap.size w w' := by
  have hN := Lib.hid hx
  have hM := Lib.hid hy
  have hS := Lib.hid hs
  clear hx hy hs
  go_enter Try.func162, Try.ntmps162
  go_wp2_with fail
  go_loopw [5] (fun i wr => ∃ k : Nat, k ≤ xss.length ∧ i = .int .i64 k ∧ Hid (Below w.heap.size w wr)) (fun i _ => xss.length - (intOf i).toNat)
  case atStart => exact ⟨0, Nat.zero_le _, rfl, bb _⟩
  case round =>
    obtain ⟨k, hk, rfl, HS⟩ := hrel
    by_cases hlt : k < xss.length
    · obtain ⟨b, off, D, dc, rfl, m0, hI⟩ := (hN.out.grow HS.out).at_ k hlt
      obtain ⟨b', off', E, ec, rfl, p0, hJ⟩ := (hM.out.grow HS.out).at_ k hlt
      have hcall := Lib.hid (fun W (h : Below wr.heap.size wr W) => vInts_same D E dc ec xss[k] W (hI.grow h) (hJ.grow h) (hS.out _ (List.getElem_mem hlt)))
      have k0 := cell_regrown m0
      have q0 := cell_regrown p0
      generalize xss[k] = v at *
      clear m0 p0 hI hJ
      go_wp2_with fail
      refine wp_region_quiet_below (by kernel_rfl) (by kernel_rfl) ?_
      repeat (any_goals (first | go_big_quiet_step ((go_at_call 52; exact Calls.regrown_of (hcall.out _ (below_regrown _ _ _))))))
      refine wpQuiet_nil ?_
      rintro w3 ⟨p, rfl⟩
      have HS4 := Lib.hid (btr HS.out (below_regrown _ p.d p.os))
      clear HS k0 q0 hcall
      go_wp2_with fail
      go_roundw
      case rel => exact ⟨k + 1, by omega, by go_num, HS4⟩
      case measure => simp [intOf]; omega
    · obtain rfl : k = xss.length := by omega
      have hB := HS.out
      go_wp2_with fail
      go_ret
      exact ⟨rfl, hB⟩

set_option maxHeartbeats 2000000 in
theorem vCnf_same (vars : Int) (A A' : Option Addr) (c c' : Nat) (xss : List (List Int)) (w : World) (hx : ClsAt w A xss) (hy : ClsAt w A' xss) (hl : xss.length ≤ 1000000) (hs : ∀ c ∈ xss, c.length ≤ 1000000) :
    Calls Try.prog 65 #[.agg #[.int .i64 vars, .slice A xss.length c], .agg #[.int .i64 vars, .slice A' xss.length c']] w fun e w' => e = .returned (.bool true) ∧ Below w.heap.size w w' := by
  have S0 := ((Sp.start w).alloc_box #[.int .i64 vars, .slice A xss.length c] 26).alloc_box #[.int .i64 vars, .slice A' xss.length c'] 26
  simp only [World.size_alloc] at S0
  have hcall := Lib.hid (vTable_same A A' c c' xss _ (hx.grow S0.below) (hy.grow S0.below) hl hs)
  have a0 := S0.cell (i := 1) rfl (o := 0) rfl
  have a1 := S0.cell (i := 1) rfl (o := 1) rfl
  have b0 := S0.cell (i := 0) rfl (o := 0) rfl
  have b1 := S0.cell (i := 0) rfl (o := 1) rfl
  replace S0 := Lib.hid S0
  generalize xss.length = m at *
  have hv : (vars == vars) = true := by simp
  clear hx hy hs
  go_enter Try.func65, Try.ntmps65
  go_wp2_with fail
  refine hcall.out.mono ?_
  rintro e w1 ⟨rfl, hb1⟩
  have hB := Lib.hid (S0.out.grow hb1).below
  clear S0 hcall hb1 a0 a1 b0 b1
  go_wp2_with fail
  go_ret
  exact ⟨rfl, hB.out⟩

/-- A copy of a row of numbers. -/
theorem cloneA_any (A : Option Addr) (cap : Nat) (xs : List Int) (w : World) (hx : IntsAt w A xs) (hl : xs.length ≤ 1000000) :
    Calls Try.prog 205 #[.slice A xs.length cap] w (OneI w xs) := by
  rcases Nat.eq_zero_or_pos xs.length with h0 | h0
  · obtain rfl : xs = [] := List.length_eq_zero_iff.1 h0
    cases A with
    | none =>
      refine (Try.slices_Clone_int_nil 0 cap w).mono ?_
      rintro e w' ⟨rfl, rfl⟩
      exact ⟨none, 0, rfl, (Sp.start _).own_nil _ _⟩
    | some a =>
      refine (Try.slices_Clone_int_zero a cap w).mono ?_
      rintro e w' ⟨v, rfl, ho, -, hb⟩
      have S := (Sp.start w).own_new hb (owns_zero ho) (owns_ge ho)
      obtain ⟨B, c, rfl⟩ := own_slice ho
      exact ⟨B, c, rfl, S⟩
  · obtain ⟨b, off, rfl, -⟩ := hx.at_ 0 h0
    have h := Try.slices_Clone_int b off xs.length cap xs w (Nat.le_refl _) (by omega) fun j hj => by
      obtain ⟨b', off', e, h1⟩ := hx.at_ j hj
      cases e
      rw [h1, List.getD_eq_getElem?_getD, List.getElem?_eq_getElem hj]; rfl
    refine h.mono ?_
    rintro e w' ⟨v, rfl, ho, -, hb⟩
    rw [List.take_length] at ho
    have S := (Sp.start w).own_new hb (owns_zero ho) (owns_ge ho)
    obtain ⟨B, c, rfl⟩ := own_slice ho
    exact ⟨B, c, rfl, S⟩

set_option maxHeartbeats 1000000 in
theorem l1OwnI_any (A : Option Addr) (cap : Nat) (xs : List Int) (w : World) (hx : IntsAt w A xs) (hl : xs.length ≤ 1000000) :
    Calls Try.prog 234 #[.slice A xs.length cap] w (OneI w xs) := by
  obtain ⟨i0, hi, hz0, hz1, hz2⟩ := info_parts infoInt
  have S0 := (Sp.start w).own_made 3 1
  have hsrc := ints_src (hx.grow S0.below) rfl
  replace S0 := Lib.hid S0
  replace hsrc := Lib.hid hsrc
  clear hx
  go_enter Try.func234, Try.ntmps234
  go_wp2_with (at_builtin; refine wpList_append_src rfl _ _ rfl Try.underlying30 hi hz0 hz1 hz2 rfl (by decide) _ _ _ rfl (S0.out.own (i := 0) rfl) A xs.length cap _ rfl hsrc.out (ints_one xs) ?c3 ?c4 ?_)
  case c3 => unfold maxLen; omega
  case c4 => omega
  intro v' w1 hown hg hat
  have S1 := S0.out.own_push (i := 0) rfl (bb _) hown hg (by simpa using hat)
  obtain ⟨a, c', rfl⟩ := own_slice hown
  replace S1 := Lib.hid S1
  clear hown hg hat S0
  go_wp2_with fail
  go_ret
  exact ⟨a, c', rfl, S1.out⟩
end Go.Proofs.Ytmikconjhmhekaa

/- Contracts: lists of rows copied, on both sides. -/
namespace Go.Proofs.Ytmikconjhmhekaa
open Go.RowKit Go.Shelf

/-- Rows of the call's own. -/
def RowsP (w : World) (xss : List (List Int)) (e : Ending) (w' : World) : Prop := ∃ B cap cs, e = .returned (.slice B xss.length cap) ∧ Sp w w' [Rows Ty.int 30 (.slice B xss.length cap) cs xss]
theorem take_snoc {α : Type} {l : List α} {k : Nat} (h : k < l.length) : l.take k ++ [l[k]] = l.take (k + 1) := (List.take_succ_eq_append_getElem h).symm

set_option maxRecDepth 100000 in
set_option maxHeartbeats 4000000 in
theorem cloneLists_any (cls : List (List Int)) (A : Option Addr) (cap : Nat) (w : World) (hx : ClsAt w A cls) (hl : cls.length ≤ 1000) (hs : ∀ c ∈ cls, c.length ≤ 1000000) :
    Calls Try.prog 159 #[.slice A cls.length cap] w (RowsP w cls) := by
  obtain ⟨i1, hi, hz0, hz1, hz2⟩ := info_parts infoRow
  have S0 := Lib.hid ((Sp.start w).rows_nil Ty.int 30)
  have hX := Lib.hid hx
  have hS := Lib.hid hs
  clear hx hs
  go_enter Try.func159, Try.ntmps159
  go_wp2_with fail
  go_loopw [3, 5, 8] (fun v3 _ v8 wr => ∃ (k : Nat) (B : Option Addr) (cc : Nat) (cs : List Value) (ys : List (List Int)), k ≤ cls.length ∧ v8 = .int .i64 k ∧ v3 = .slice B ys.length cc ∧ ys.length = k ∧ Hid (ys = cls.take k) ∧ Hid (Sp w wr [Rows Ty.int 30 (.slice B ys.length cc) cs ys])) (fun _ _ v8 _ => cls.length - (intOf v8).toNat)
  case atStart => exact ⟨0, none, 0, [], [], Nat.zero_le _, rfl, rfl, rfl, rfl, S0⟩
  case round =>
    clear S0
    obtain ⟨k, B, cc, cs, ys, hk, rfl, rfl, hyk, hys, HS⟩ := hrel
    by_cases hlt : k < cls.length
    · obtain ⟨ab, aoff, D, dc, rfl, m0, hI⟩ := hX.out.at_ k hlt
      have n0 := cell_below m0 HS.out.below
      have hcl := Lib.hid (cloneA_any D dc cls[k] _ (hI.grow HS.out.below) (hS.out _ (List.getElem_mem hlt)))
      have hok := Lib.hid hI.ok
      have hnx : Hid (ys ++ [cls[k]] = cls.take (k + 1)) := by unfold Hid; rw [hys.out, take_snoc hlt]
      generalize cls[k] = c at *
      clear m0 hI hys
      replace hyk := Lib.hid hyk
      go_wp2_with fail
      refine hcl.out.mono ?_
      rintro e w2 ⟨E, ec, rfl, T⟩
      have S3 := Sp.own_to_row (HS.out.seq T) hok.out
      have hrows := Lib.hid ((S3.rows (i := 1) rfl).alloc (.cells #[.slice E c.length ec] 30))
      have kB : (w2.alloc (.cells #[.slice E c.length ec] 30)).cell? ⟨w2.heap.size, 0, none⟩ = some (.slice E c.length ec) := cell_of_row _ _ _ _ _ _ (heap_alloc_new w2 _)
      have S4 := Lib.hid (S3.alloc (.cells #[.slice E c.length ec] 30))
      have hyl : ys.length ≤ 1000 := by have := hyk.out; omega
      clear HS T S3 n0 hcl
      go_wp2_with (at_builtin; refine wpList_append_src rfl _ _ rfl Try.underlying24 hi hz0 hz1 hz2 rfl (by decide) _ ys.length _ rfl hrows.out _ 1 1 [.slice E c.length ec] rfl (Src.one kB) (by simp [Value.oneCell']) ?c3 ?c4 ?_)
      case c3 => unfold maxLen; omega
      case c4 => omega
      intro vY wY hownY hgY hatY
      have S5 := S4.out.rows_push (bb _) hownY hgY (by simpa using hatY)
      obtain ⟨aY, cY, rfl⟩ := own_slice hownY
      have hlen : ys.length + 1 = (ys ++ [c]).length := by simp
      rw [hlen] at S5 ⊢
      have hyk2 : (ys ++ [c]).length = k + 1 := by rw [← hlen, hyk.out]
      clear S4 hrows kB hownY hgY hatY hlen hyk hyl
      replace S5 := Lib.hid S5
      replace hyk2 := Lib.hid hyk2
      generalize ys ++ [c] = ys2 at *
      go_wp2_with fail
      go_roundw
      case rel => exact ⟨k + 1, aY, cY, cs ++ [.slice E c.length ec], ys2, by omega, by go_num, rfl, hyk2.out, hnx, S5⟩
      case measure => simp [intOf]; omega
    · obtain rfl : k = cls.length := by omega
      have hy2 : ys = cls := by have := hys.out; rwa [List.take_length] at this
      subst hy2
      clear hys hyk
      go_wp2_with fail
      go_ret
      exact ⟨B, cc, cs, rfl, HS.out⟩
end Go.Proofs.Ytmikconjhmhekaa

/- Contracts: two lists of rows put together, in the library. -/
namespace Go.Proofs.Ytmikconjhmhekaa
open Go.RowKit Go.Shelf

def growRenL : Go.Shelf.Ren := ⟨fun | 4 => 233 | n => n, fun | 22 => 24 | 25 => 30 | n => n, fun | n => n⟩
theorem growLayL : Lays8.n4 Try.prog growRenL := {
  mixed := by kernel_rfl
  f4 := ⟨Try.f233.name, by kernel_rfl, Try.func233.trans (congrArg some (by kernel_rfl))⟩
  t0 := Try.underlying0
  a0 := Try.isAgg0
  z0 := Try.sizeOf0
  v0 := Try.zeroValue0
  t3 := Try.underlying3
  a3 := Try.isAgg3
  z3 := Try.sizeOf3
  v3 := Try.zeroValue3
  t4 := Try.underlying4
  a4 := Try.isAgg4
  z4 := Try.sizeOf4
  v4 := Try.zeroValue4
  t9 := Try.underlying9
  a9 := Try.isAgg9
  z9 := Try.sizeOf9
  v9 := Try.zeroValue9
  t20 := Try.underlying20
  a20 := Try.isAgg20
  z20 := Try.sizeOf20
  v20 := Try.zeroValue20
  t22 := Try.underlying24
  a22 := Try.isAgg24
  z22 := Try.sizeOf24
  v22 := Try.zeroValue24 }

theorem growL_any (n : Nat) (hn : n ≤ 1000000) (w : World) : Calls Try.prog 233 #[.slice none 0 0, .int .i64 n] w fun e w' => ∃ B cc, e = .returned (.slice B 0 cc) ∧ Sp w w' [Own 30 1 (.slice B 0 cc) 0 []] := by
  obtain ⟨i1, hi, hz0, hz1, hz2⟩ := info_parts infoRow
  rcases Nat.eq_zero_or_pos n with rfl | h0
  · refine (Any8.slices_Grow_room growLayL none 0 0 0 w (by decide) (by decide) (by decide) (by decide)).mono ?_
    rintro e w' ⟨rfl, rfl⟩
    exact ⟨none, 0, rfl, (Sp.start _).own_nil _ _⟩
  · have h := Any8.slices_Grow_grow growLayL i1 _ hi hz0 (by omega) none 0 0 n [] w (by decide) (by omega) (by rw [hz2]; omega) (by omega) (by simp) (fun _ => rfl) (fun a e => by cases e)
    refine h.mono ?_
    rintro e w' ⟨rfl, rfl⟩
    have hb : Below w.heap.size w w.drew := bdr (bb w)
    have S := (Sp.of_below hb)
    refine ⟨_, _, rfl, S.own_new (bal (bb _) _) (World.ownsRow_made w.drew _ _ (Nat.zero_le _) (grownCap_le_maxLen w _ _ _ (by unfold maxLen; omega)) ?_) fun g hg => ?_⟩
    · have := grownCap_ge w (0 + n) 0 (growRenL.t 25)
      generalize grownCap w (0 + n) 0 (growRenL.t 25) = q at *
      simp only [Array.size_append, size_zeroCells, List.size_toArray, List.length_nil, Value.cells, List.length_cons]
      omega
    · have : g = w.heap.size := by simpa [Value.ownBlock] using hg.symm
      subst this
      exact Nat.le_refl _

def szK (n1 n2 : Nat) : Nat → Nat
  | 0 => 0
  | 1 => n1
  | _ => n1 + n2
def catK (us1 us2 : List Value) : Nat → List Value
  | 0 => []
  | 1 => us1
  | _ => us1 ++ us2

set_option maxRecDepth 100000 in
set_option maxHeartbeats 4000000 in
theorem concatL_any (b : Nat) (A1 A2 : Option Addr) (n1 n2 c1 c2 : Nat) (us1 us2 : List Value) (w : World) (h0 : w.cell? ⟨b, 0, none⟩ = some (.slice A1 n1 c1)) (h1 : w.cell? ⟨b, 1, none⟩ = some (.slice A2 n2 c2)) (hs1 : Src w A1 n1 1 us1) (hs2 : Src w A2 n2 1 us2)
    (o1 : ∀ u ∈ us1, u.oneCell' = true) (o2 : ∀ u ∈ us2, u.oneCell' = true) (l1 : n1 ≤ 1000) (l2 : n2 ≤ 1000) :
    Calls Try.prog 160 #[.slice (some ⟨b, 0, none⟩) 2 2] w fun e w' => ∃ B cc, e = .returned (.slice B (n1 + n2) cc) ∧ Sp w w' [Own 30 1 (.slice B (n1 + n2) cc) (n1 + n2) (us1 ++ us2)] := by
  obtain ⟨i1, hi, hz0, hz1, hz2⟩ := info_parts infoRow
  have key : Hid (∀ k, k < 2 → ∃ A n c us, w.cell? ⟨b, k, none⟩ = some (.slice A n c) ∧ Src w A n 1 us ∧ (∀ u ∈ us, u.oneCell' = true) ∧ n ≤ 1000 ∧ szK n1 n2 (k + 1) = szK n1 n2 k + n ∧ catK us1 us2 (k + 1) = catK us1 us2 k ++ us) := fun k hk => by
    rcases k with _ | _ | k
    · exact ⟨A1, n1, c1, us1, h0, hs1, o1, l1, by simp [szK], by simp [catK]⟩
    · exact ⟨A2, n2, c2, us2, h1, hs2, o2, l2, rfl, rfl⟩
    · omega
  have hle : ∀ k, szK n1 n2 k ≤ 2000 := fun k => by
    rcases k with _ | _ | k <;> simp only [szK] <;> omega
  have hS0 : Hid (szK n1 n2 0 = 0) := rfl
  have hC0 : Hid (catK us1 us2 0 = []) := rfl
  have hS2 : Hid (szK n1 n2 2 = n1 + n2) := rfl
  have hC2 : Hid (catK us1 us2 2 = us1 ++ us2) := rfl
  replace hle := Lib.hid hle
  generalize szK n1 n2 = sz at *
  generalize catK us1 us2 = ct at *
  obtain ⟨m, hm⟩ : ∃ m, n1 + n2 = m := ⟨_, rfl⟩
  rw [hm] at hS2 ⊢
  clear hm h0 h1 hs1 hs2 o1 o2 l1 l2
  go_enter Try.func160, Try.ntmps160
  go_wp2_with fail
  go_loopw [3, 5, 11] (fun v3 _ v11 wr => ∃ (k z : Nat), k ≤ 2 ∧ v11 = .int .i64 k ∧ v3 = .int .i64 z ∧ z ≤ 2000 ∧ Hid (sz k = z) ∧ Hid (Below w.heap.size w wr)) (fun _ _ v11 _ => 2 - (intOf v11).toNat)
  case atStart => exact ⟨0, 0, by omega, rfl, rfl, by omega, hS0, bb _⟩
  case round =>
    obtain ⟨k, z, hk, rfl, rfl, hz, hsz, HB⟩ := hrel
    by_cases hlt : k < 2
    · obtain ⟨Ak, nk, ck, us, hc, -, -, hnk, hsn, -⟩ := key.out k hlt
      have hc2 := cell_below hc HB.out
      have hzn : Hid (sz (k + 1) = z + nk) := by unfold Hid; rw [hsn, hsz.out]
      have hyb : z + nk ≤ 2000 := by have := hle.out (k + 1); rw [hzn.out] at this; exact this
      have hwr : IntKind.i64.wrap ((z : Int) + nk) = ((z + nk : Nat) : Int) := by rw [IntWalk.i64_in _ (by omega)]; omega
      obtain ⟨y, hy⟩ : ∃ y, z + nk = y := ⟨_, rfl⟩
      rw [hy] at hwr hyb hzn
      have hneg : decide ((y : Int) < 0) = false := decide_eq_false (by omega)
      replace hy := Lib.hid hy
      clear hc hsn
      have hwr2 := hwr
      go_wp2_with fail
      go_roundw
      case rel => exact ⟨k + 1, y, by omega, by go_num, rfl, hyb, hzn, HB⟩
      case measure => simp [intOf]; omega
    · obtain rfl : k = 2 := by omega
      obtain rfl : z = m := by rw [← hsz.out]; exact hS2.out
      have hgr := Lib.hid (growL_any z (by omega) wr)
      have S0 := Lib.hid (Sp.of_below HB.out)
      clear HB hsz
      go_wp2_with fail
      refine hgr.out.mono ?_
      rintro e w2 ⟨B, cc, rfl, T⟩
      have S1 : Hid (Sp w w2 [Own 30 1 (.slice B 0 cc) 0 []]) := S0.out.seq T
      clear hgr S0 T
      go_wp2_with fail
      go_loopw [6, 8, 27] (fun v6 _ v27 wr => ∃ (k y : Nat) (B : Option Addr) (cc : Nat) (us : List Value), k ≤ 2 ∧ v27 = .int .i64 k ∧ v6 = .slice B y cc ∧ y ≤ 2000 ∧ Hid (sz k = y) ∧ Hid (ct k = us) ∧ Hid (Sp w wr [Own 30 1 (.slice B y cc) y us])) (fun _ _ v27 _ => 2 - (intOf v27).toNat)
      case atStart => exact ⟨0, 0, B, cc, [], by omega, rfl, rfl, by omega, hS0, hC0, S1⟩
      case round =>
        clear S1
        obtain ⟨k, y, B, cc, us, hk, rfl, rfl, hyl, hsy, hcy, HS⟩ := hrel
        by_cases hlt : k < 2
        · obtain ⟨Ak, nk, ck, vs, hc, hsr, ho, hnk, hsn, hcn⟩ := key.out k hlt
          have hc2 := cell_below hc HS.out.below
          have hsr2 := Lib.hid (hsr.grow HS.out.below)
          have hoH := Lib.hid ho
          have hzn : Hid (sz (k + 1) = y + nk) := by unfold Hid; rw [hsn, hsy.out]
          have hyb : y + nk ≤ 2000 := by have := hle.out (k + 1); rw [hzn.out] at this; exact this
          have hcn2 : Hid (ct (k + 1) = us ++ vs) := by unfold Hid; rw [hcn, hcy.out]
          clear hc hsr ho hsn hcn
          go_wp2_with (at_builtin; refine wpList_append_src rfl _ _ rfl Try.underlying24 hi hz0 hz1 hz2 rfl (by decide) _ _ _ rfl (HS.out.own (i := 0) rfl) Ak nk ck vs rfl hsr2.out hoH.out ?c3 ?c4 ?_)
          case c3 => unfold maxLen; omega
          case c4 => omega
          intro vY wY hownY hgY hatY
          have S5 := Lib.hid (HS.out.own_push (i := 0) rfl (bb _) hownY hgY (by simpa using hatY))
          obtain ⟨aY, cY, rfl⟩ := own_slice hownY
          clear HS hownY hgY hatY hsr2 hoH
          obtain ⟨q, hq⟩ : ∃ q, y + nk = q := ⟨_, rfl⟩
          rw [hq] at S5 hzn hyb ⊢
          clear hq
          go_wp2_with fail
          go_roundw
          case rel => exact ⟨k + 1, q, aY, cY, us ++ vs, by omega, by go_num, rfl, hyb, hzn, hcn2, S5⟩
          case measure => simp [intOf]; omega
        · obtain rfl : k = 2 := by omega
          obtain rfl : y = z := by rw [← hsy.out]; exact hS2.out
          have S5 := HS.out
          rw [← hcy.out, hC2.out] at S5
          replace S5 := Lib.hid S5
          clear HS
          go_wp2_with fail
          go_ret
          exact ⟨B, cc, rfl, S5.out⟩
end Go.Proofs.Ytmikconjhmhekaa

/- Contract: the sides of a Cnf exchanged, in the program. -/
namespace Go.Proofs.Ytmikconjhmhekaa
open Go.RowKit

/-- Exchanged sides. -/
def swapC (xss : List (List Int)) (k : Nat) : List (List Int) := xss.drop k ++ xss.take k
/-- A Cnf, a number and whether they are told; the Cnf can be read. -/
def SwapR (w : World) (va : Int) (ys : List (List Int)) (nn : Int) (ok : Bool) (e : Ending) (w' : World) : Prop :=
  ∃ B cc F, e = .returned (.tuple #[.agg #[.int .i64 va, .slice B ys.length cc], .int .i64 nn, .bool ok]) ∧ (Ty.slice Ty.int).row false w' (.slice B ys.length cc) ys F ∧ Below w.heap.size w w'

set_option maxRecDepth 100000 in
set_option maxHeartbeats 4000000 in
theorem implSwapNo_any (vars : Int) (v : Value) (xss : List (List Int)) (k : Int) (F : List Nat) (w : World) (hx : (Ty.slice Ty.int).row false w v xss F) (hq : askB vars xss k = false) :
    Calls Try.prog 63 #[.agg #[.int .i64 vars, v], .int .i64 k] w (SwapR w 0 [] 0 false) := by
  obtain ⟨A, cap, rfl, hI⟩ := cls_row hx
  have S0 := ((Sp.start w).alloc_box #[.int .i64 vars, .slice A xss.length cap] 26).alloc_box #[.int .i64 0, .slice none 0 0] 26
  simp only [World.size_alloc] at S0
  have hcall := Lib.hid (splitOfNo_any vars _ xss k F _ (Ty.row_below hx S0.below (Ty.row_lt hx)) hq)
  have c0 := S0.cell (i := 1) rfl (o := 0) rfl
  have c1 := S0.cell (i := 1) rfl (o := 1) rfl
  replace S0 := Lib.hid S0
  clear hx hI hq
  go_enter Try.func63, Try.ntmps63
  go_wp2_with fail
  refine hcall.out.mono ?_
  rintro e w1 ⟨rfl, hb1⟩
  have S1 := S0.out.grow hb1
  clear hcall S0 hb1 c0 c1
  have r0 := S1.cell (i := 0) rfl (o := 0) rfl
  have r1 := S1.cell (i := 0) rfl (o := 1) rfl
  have f0 := S1.frozen (i := 0) rfl 0
  have f1 := S1.frozen (i := 0) rfl 1
  have SF := (S1.store (i := 0) rfl 0 (.int .i64 0)).store (i := 0) rfl 1 (.slice none 0 0)
  have j0 := SF.cell (i := 0) rfl (o := 0) rfl
  have j1 := SF.cell (i := 0) rfl (o := 1) rfl
  have hB := Lib.hid SF.below
  clear S1 SF
  go_wp2_with fail
  exact bodyPost_ret (v := .tuple #[.agg #[.int .i64 0, .slice none 0 0], .int .i64 0, .bool false]) (by simp [results, Try.results63, go_sem, j0, j1]) rfl ⟨none, 0, [], rfl, Ty.row_nil _ _ _ _ _ (by decide), hB.out⟩

set_option maxRecDepth 100000 in
set_option maxHeartbeats 8000000 in
theorem implSwapYes_any (n : Nat) (A : Option Addr) (cap : Nat) (xss : List (List Int)) (k : Nat) (F : List Nat) (w : World) (hx : (Ty.slice Ty.int).row false w (.slice A xss.length cap) xss F) (hq : askB n xss k = true) :
    Calls Try.prog 63 #[.agg #[.int .i64 n, .slice A xss.length cap], .int .i64 k] w (SwapR w n (swapC xss k) ((xss.length : Int) - k) true) := by
  obtain ⟨_, _, e1, hI⟩ := cls_row hx
  cases e1
  obtain ⟨_, _, e1, hcap, -⟩ := Ty.row_len hx
  cases e1
  obtain ⟨hg, -, hk1⟩ := ask_parts hq
  have hgc := good_cnf hg
  have hk : k ≤ xss.length := by omega
  have hl60 := hgc.2.1
  have S0 := ((Sp.start w).alloc_box #[.int .i64 n, .slice A xss.length cap] 26).alloc_box #[.int .i64 0, .slice none 0 0] 26
  simp only [World.size_alloc] at S0
  have hsp := Lib.hid (splitOfYes_any n A cap xss k F _ (Ty.row_below hx S0.below (Ty.row_lt hx)) hq)
  obtain ⟨us1, hv1, hs1, ho1⟩ := cls_src (hI.from (cap := cap) k hcap)
  obtain ⟨us2, hv2, hs2, ho2⟩ := cls_src (hI.to k)
  have hV := Lib.hid (hv1.append hv2)
  have hcl := Lib.hid (fun E ec W (h : ClsAt W E (swapC xss k)) => cloneLists_any (swapC xss k) E ec W h (by simp [swapC]; omega) (fun c hc => by
    have : c ∈ xss := by
      rcases List.mem_append.1 hc with h | h
      · exact List.mem_of_mem_drop h
      · exact List.mem_of_mem_take h
    have := (hgc.2.2.2 c this).2; omega))
  change Hid (ClsV w (us1 ++ us2) (swapC xss k)) at hV
  have hlen : (swapC xss k).length = xss.length := by simp [swapC]; omega
  rw [show (xss.drop k).length = xss.length - k by rw [List.length_drop]] at hs1
  rw [show (xss.take k).length = k by rw [List.length_take]; omega] at hs2
  generalize swapC xss k = ys at *
  generalize varF n (bothL (xss.take k) (xss.drop k)) = sh at *
  obtain ⟨m, hm⟩ : ∃ m, xss.length = m := ⟨_, rfl⟩
  rw [hm] at S0 hsp hs1 hk hcap hl60 hlen ⊢
  have hw1 : IntKind.i64.wrap ((m : Int) - k) = (m : Int) - k := IntWalk.i64_in _ (by omega)
  have hs1H := Lib.hid hs1
  have hs2H := Lib.hid hs2
  have ho1H := Lib.hid ho1
  have ho2H := Lib.hid ho2
  have hyl := Lib.hid hlen
  have c0 := S0.cell (i := 1) rfl (o := 0) rfl
  have c1 := S0.cell (i := 1) rfl (o := 1) rfl
  replace S0 := Lib.hid S0
  clear hm hI hx hg hk1 hgc hq hv1 hv2 hs1 hs2 ho1 ho2 hlen
  go_enter Try.func63, Try.ntmps63
  go_wp2_with fail
  refine hsp.out.mono ?_
  rintro e w1 ⟨sb, B, sc, rfl, T1⟩
  have S2 : Hid (Sp w w1 [Box sb 132 #[.int .i64 n, .slice A m cap, .int .i64 k, .slice B sh.length sc], Own 3 1 (.slice B sh.length sc) sh.length (sh.map (.int .i64)), Box (w.heap.size + 1) 26 #[.int .i64 0, .slice none 0 0], Box w.heap.size 26 #[.int .i64 n, .slice A m cap]]) := S0.out.seq T1
  clear S0 T1 hsp c0 c1
  have d0 := S2.out.cell (i := 3) rfl (o := 0) rfl
  have d1 := S2.out.cell (i := 3) rfl (o := 1) rfl
  have S3 := Lib.hid S2.out.drew
  have hri := Lib.hid (right_any sb k m cap A _ (S3.out.cell (i := 0) rfl (o := 1) rfl) (S3.out.cell (i := 0) rfl (o := 2) rfl) hk hcap)
  clear S2
  go_wp2_with fail
  refine wp_region_held_lit (S := (fun w' => w'.cell? ⟨w.heap.size, 0, none⟩ = some (.int .i64 n) ∧ w'.cell? ⟨w.heap.size, 1, none⟩ = some (.slice A m cap))) 18 [false, false, false, false, false, false, false, false, false, false, false, false, false, false, false, false, false, false] (by kernel_rfl) (by kernel_rfl) (by kernel_rfl) ?_ ?_
  · exact ⟨d0, d1⟩
  intro hSc
  (refine wpAnyH_take (i := 0) (v := ?_) rfl (by kernel_rfl) (by kernel_rfl) (by kernel_rfl) (fun _ _ _ h => h) (Or.inl ⟨by rfl, ?_⟩) (by assumption) ?_; rotate_left; (focus (intro w hSw; (try dsimp only at hSw); go_simp; (try with_reducible rfl); done)); (try simp only [put_rules]))
  (refine wpAnyH_take (i := 1) (v := ?_) rfl (by kernel_rfl) (by kernel_rfl) (by kernel_rfl) (fun _ _ _ h => h) (Or.inl ⟨by rfl, ?_⟩) (by assumption) ?_; rotate_left; (focus (intro w hSw; (try dsimp only at hSw); go_simp; (try with_reducible rfl); done)); (try simp only [put_rules]))
  (refine wpAnyH_take (i := 2) (v := ?_) rfl (by kernel_rfl) (by kernel_rfl) (by kernel_rfl) (fun _ _ _ h => h) (Or.inl ⟨by rfl, ?_⟩) (by assumption) ?_; rotate_left; (focus (intro w hSw; (try dsimp only at hSw); go_simp; (try with_reducible rfl); done)); (try simp only [put_rules]))
  (refine wpAnyH_take (i := 4) (v := ?_) rfl (by kernel_rfl) (by kernel_rfl) (by kernel_rfl) (fun _ _ _ h => h) (Or.inl ⟨by rfl, ?_⟩) (by assumption) ?_; rotate_left; (focus (intro w hSw; (try dsimp only at hSw); go_simp; (try with_reducible rfl); done)); (try simp only [put_rules]))
  (refine wpAnyH_take (i := 10) (v := ?_) rfl (by kernel_rfl) (by kernel_rfl) (by kernel_rfl) (fun _ _ _ h => h) (Or.inl ⟨by rfl, ?_⟩) (by assumption) ?_; rotate_left; (focus (intro w hSw; (try dsimp only at hSw); go_simp; (try with_reducible rfl); done)); (try simp only [put_rules]))
  (refine wpAnyH_take (i := 11) (v := ?_) rfl (by kernel_rfl) (by kernel_rfl) (by kernel_rfl) (fun _ _ _ h => h) (Or.inl ⟨by rfl, ?_⟩) (by assumption) ?_; rotate_left; (focus (intro w hSw; (try dsimp only at hSw); go_simp; (try with_reducible rfl); done)); (try simp only [put_rules]))
  (refine wpAnyH_take (i := 12) (v := ?_) rfl (by kernel_rfl) (by kernel_rfl) (by kernel_rfl) (fun _ _ _ h => h) (Or.inl ⟨by rfl, ?_⟩) (by assumption) ?_; rotate_left; (focus (intro w hSw; (try dsimp only at hSw); go_simp; (try with_reducible rfl); done)); (try simp only [put_rules]))
  (refine wpAnyH_take (i := 13) (v := ?_) rfl (by kernel_rfl) (by kernel_rfl) (by kernel_rfl) (fun _ _ _ h => h) (Or.inl ⟨by rfl, ?_⟩) (by assumption) ?_; rotate_left; (focus (intro w hSw; (try dsimp only at hSw); go_simp; (try with_reducible rfl); done)); (try simp only [put_rules]))
  (refine wpAnyH_take (i := 14) (v := ?_) rfl (by kernel_rfl) (by kernel_rfl) (by kernel_rfl) (fun _ _ _ h => h) (Or.inl ⟨by rfl, ?_⟩) (by assumption) ?_; rotate_left; (focus (intro w hSw; (try dsimp only at hSw); go_simp; (try with_reducible rfl); done)); (try simp only [put_rules]))
  (refine wpAnyH_ready (rs := [3]) (by kernel_rfl) (by simp) ?_; refine AllReadyH.cons rfl (fun K hK => ?_) AllReadyH.nil)
  go_simp
  go_at_call 156
  refine hri.out.mono ?_
  rintro e w3 ⟨rfl, hb3⟩
  have S4 := Lib.hid (S3.out.grow hb3)
  have hle := Lib.hid (left_any sb k m cap A _ (S4.out.cell (i := 0) rfl (o := 1) rfl) (S4.out.cell (i := 0) rfl (o := 2) rfl) (by omega))
  clear S3 hri hb3 d0 d1
  go_wp2_with fail
  refine hK.out _ _ ⟨S4.out.cell (i := 3) rfl (o := 0) rfl, S4.out.cell (i := 3) rfl (o := 1) rfl⟩ (fun hS2 => ?_)
  clear hK hSc
  (try simp only [put_rules])
  (refine wpAnyH_ready (rs := [5]) (by kernel_rfl) (by simp) ?_; refine AllReadyH.cons rfl (fun K hK => ?_) AllReadyH.nil)
  go_simp
  go_at_call 155
  refine hle.out.mono ?_
  rintro e w4 ⟨rfl, hb4⟩
  have S5 := Lib.hid (S4.out.grow hb4)
  clear S4 hle hb4
  go_wp2_with fail
  refine hK.out _ _ ⟨S5.out.cell (i := 3) rfl (o := 0) rfl, S5.out.cell (i := 3) rfl (o := 1) rfl⟩ (fun hS3 => ?_)
  clear hK hS2
  (try simp only [put_rules])
  (refine wpAnyH_ready (rs := [6]) (by kernel_rfl) (by simp) ?_; refine AllReadyH.cons rfl (fun K hK => ?_) AllReadyH.nil)
  go_simp
  have S6 := S5.out.alloc_box #[.slice (cutA A cap k 1) (m - k) (cap - k), .slice A k cap] 24
  have hco := Lib.hid (concatL_any w4.heap.size (cutA A cap k 1) A (m - k) k (cap - k) cap us1 us2 _ (S6.cell (i := 0) rfl (o := 0) rfl) (S6.cell (i := 0) rfl (o := 1) rfl) (hs1H.out.grow S6.below) (hs2H.out.grow S6.below) ho1H.out ho2H.out (by omega) (by omega))
  rw [show m - k + k = m by omega] at hco
  replace S6 := Lib.hid S6
  clear S5 hs1H hs2H ho1H ho2H
  refine hK.out _ _ ⟨S6.out.cell (i := 4) rfl (o := 0) rfl, S6.out.cell (i := 4) rfl (o := 1) rfl⟩ (fun hS4 => ?_)
  clear hK hS3
  (try simp only [put_rules])
  (refine wpAnyH_ready (rs := [7]) (by kernel_rfl) (by simp) ?_; refine AllReadyH.cons rfl (fun K hK => ?_) AllReadyH.nil)
  go_simp
  go_at_call 160
  refine hco.out.mono ?_
  rintro e w5 ⟨E, ec, rfl, T5⟩
  have S7 := S6.out.seq T5
  have hown := S7.own (i := 0) rfl
  rw [← hyl.out] at hown
  have hcl2 := hcl.out E ec _ ((hV.out.keep S7.below).own hown)
  rw [hyl.out] at hcl2
  replace hcl2 := Lib.hid hcl2
  replace S7 := Lib.hid S7
  clear S6 T5 hco hcl hown hV
  go_wp2_with fail
  refine hK.out _ _ ⟨S7.out.cell (i := 5) rfl (o := 0) rfl, S7.out.cell (i := 5) rfl (o := 1) rfl⟩ (fun hS5 => ?_)
  clear hK hS4
  (try simp only [put_rules])
  (refine wpAnyH_ready (rs := [8]) (by kernel_rfl) (by simp) ?_; refine AllReadyH.cons rfl (fun K hK => ?_) AllReadyH.nil)
  go_simp
  go_at_call 159
  refine hcl2.out.mono ?_
  rintro e w6 ⟨R, rc, cs, rfl, T6⟩
  have S8 := Lib.hid (S7.out.seq T6)
  clear S7 T6 hcl2
  go_wp2_with fail
  refine hK.out _ _ ⟨S8.out.cell (i := 6) rfl (o := 0) rfl, S8.out.cell (i := 6) rfl (o := 1) rfl⟩ (fun hS6 => ?_)
  clear hK hS5
  (try simp only [put_rules])
  rw [hyl.out]
  (refine wpAnyH_take (i := 9) (v := ?_) rfl (by kernel_rfl) (by kernel_rfl) (by kernel_rfl) (fun _ _ _ h => h) (Or.inl ⟨by rfl, ?_⟩) (by assumption) ?_; rotate_left; (focus (intro w hSw; (try dsimp only at hSw); go_simp; (try with_reducible rfl); done)); (try simp only [put_rules]))
  have r0 := S8.out.cell (i := 5) rfl (o := 0) rfl
  have r1 := S8.out.cell (i := 5) rfl (o := 1) rfl
  have f0 := S8.out.frozen (i := 5) rfl 0
  have f1 := S8.out.frozen (i := 5) rfl 1
  (refine wpAnyH_ready (rs := [15]) (by kernel_rfl) (by simp) ?_; refine AllReadyH.cons rfl (fun K hK => ?_) AllReadyH.nil)
  go_simp
  have SF := (S8.out.store (i := 5) rfl 0 (.int .i64 n)).store (i := 5) rfl 1 (.slice R m rc)
  have j0 := SF.cell (i := 5) rfl (o := 0) rfl
  have j1 := SF.cell (i := 5) rfl (o := 1) rfl
  refine hK.out _ _ ⟨SF.cell (i := 6) rfl (o := 0) rfl, SF.cell (i := 6) rfl (o := 1) rfl⟩ (fun hS7 => ?_)
  clear hK hS6
  (try simp only [put_rules])
  (refine wpAnyH_take (i := 16) (v := ?_) rfl (by kernel_rfl) (by kernel_rfl) (by kernel_rfl) (fun _ _ _ h => h) (Or.inl ⟨by rfl, ?_⟩) (by assumption) ?_; rotate_left; (focus (intro w hSw; (try dsimp only at hSw); go_simp; (try with_reducible rfl); done)); (try simp only [put_rules]))
  (refine wpAnyH_take (i := 17) (v := ?_) rfl (by kernel_rfl) (by kernel_rfl) (by kernel_rfl) (fun _ _ _ h => h) (Or.inl ⟨by rfl, ?_⟩) (by assumption) ?_; rotate_left; (focus (intro w hSw; (try dsimp only at hSw); go_simp; (try with_reducible rfl); done)); (try simp only [put_rules]))
  (refine wpAnyH_done (by kernel_rfl) ?_ _)
  (try simp only [put_rules])
  obtain ⟨FR, hR, -⟩ := SF.rows_done (i := 0) rfl
  have hR2 := Lib.hid (Ty.row_down hR)
  have hB := Lib.hid SF.below
  clear S8 SF hR hS7
  rw [hyl.out] at hR2
  go_wp2_with fail
  exact bodyPost_ret (v := .tuple #[.agg #[.int .i64 n, .slice R m rc], .int .i64 ((m : Int) - k), .bool true]) (by simp [results, Try.results63, go_sem, j0, j1]) rfl ⟨R, rc, FR, by rw [hyl.out], by rw [hyl.out]; exact hR2.out, hB.out⟩
end Go.Proofs.Ytmikconjhmhekaa

/- Contracts: a Cnf copied, and its sides exchanged, in the reference. -/
namespace Go.Proofs.Ytmikconjhmhekaa
open Go.RowKit

theorem all_clsV {wr : Bool} {w : World} : ∀ {cs : List Value} {xss : List (List Int)} {F : List Nat}, (Ty.slice Ty.int).all wr w cs xss F → ClsV w cs xss ∧ ∀ u ∈ cs, u.oneCell' = true
  | _, [], _, h => by
    obtain ⟨rfl, _⟩ := h
    exact ⟨⟨rfl, fun j hj => absurd hj (by simp)⟩, by simp⟩
  | _, x :: xs, _, h => by
    obtain ⟨c, d, F1, F2, rfl, rfl, ⟨v, rfl, hr⟩, h2⟩ := h
    obtain ⟨A, cap, rfl, hI⟩ := ints_row hr
    obtain ⟨h3, h4⟩ := all_clsV h2
    have h1 : ClsV w [.slice A x.length cap] [x] := ⟨rfl, fun j hj => by
      obtain rfl : j = 0 := by simpa using hj
      exact ⟨A, cap, rfl, hI⟩⟩
    exact ⟨h1.append h3, fun u hu => by
      rcases List.mem_append.1 hu with hu | hu
      · obtain rfl : u = _ := List.mem_singleton.1 hu
        rfl
      · exact h4 u hu⟩
section
variable {w0 W : World} {ps : List Asn} {i : Nat} {e : TypeId} {B : Option Addr} {cap : Nat} {cs : List Value} {xss : List (List Int)}
theorem rows_clsV (h : Sp w0 W ps) (hi : ps[i]? = some (Rows Ty.int e (.slice B xss.length cap) cs xss)) : ClsV W cs xss ∧ ∀ u ∈ cs, u.oneCell' = true := by
  obtain ⟨F, ⟨G, -, -, hall, -⟩, -⟩ := h.get hi
  exact all_clsV hall
theorem rows_srcV (h : Sp w0 W ps) (hi : ps[i]? = some (Rows Ty.int e (.slice B xss.length cap) cs xss)) : Src W B xss.length 1 cs := by
  have ho := h.rows hi
  have hn : cs.length = xss.length := by have := ho.1; omega
  rcases Nat.eq_zero_or_pos xss.length with h0 | h0
  · exact .inl ⟨h0, List.length_eq_zero_iff.1 (by omega)⟩
  · obtain ⟨g, cap', cur, e1, -, hh, -, -, -, ht⟩ := own_block ho h0
    simp only [Value.slice.injEq] at e1
    obtain ⟨rfl, -, rfl⟩ := e1
    refine .inr ⟨_, rfl, by omega, fun j u hj => ?_⟩
    have hjl := (List.getElem?_eq_some_iff.1 hj).1
    rw [add_none, Nat.zero_add, (own_at hh ht (o := j) (by omega)).1]; exact hj
end
theorem ClsV.drop {w : World} {us : List Value} {xss : List (List Int)} (h : ClsV w us xss) (k : Nat) : ClsV w (us.drop k) (xss.drop k) := ⟨by rw [List.length_drop, List.length_drop, h.1], fun j hj => by
  rw [List.length_drop] at hj
  obtain ⟨B, c, h1, h2⟩ := h.2 (k + j) (by omega)
  exact ⟨B, c, by rw [List.getElem?_drop, List.getElem_drop]; exact h1, by rw [List.getElem_drop]; exact h2⟩⟩
theorem ClsV.take {w : World} {us : List Value} {xss : List (List Int)} (h : ClsV w us xss) (k : Nat) : ClsV w (us.take k) (xss.take k) := ⟨by rw [List.length_take, List.length_take, h.1], fun j hj => by
  rw [List.length_take] at hj
  obtain ⟨B, c, h1, h2⟩ := h.2 j (by omega)
  exact ⟨B, c, by rw [List.getElem?_take_of_lt (by omega), List.getElem_take]; exact h1, by rw [List.getElem_take]; exact h2⟩⟩
theorem rows_fromV {w0 W : World} {ps : List Asn} {i : Nat} {e : TypeId} {B : Option Addr} {cap k : Nat} {cs : List Value} {xss : List (List Int)} (h : Sp w0 W ps) (hi : ps[i]? = some (Rows Ty.int e (.slice B xss.length cap) cs xss)) (hk : k ≤ xss.length) (hm : xss.length ≤ cap) : Src W (cutA B cap k 1) (xss.length - k) 1 (cs.drop k) := by
  have hs := rows_srcV h hi
  obtain ⟨-, ⟨e1, -⟩ | ⟨g, cap', cur, e1, -⟩⟩ := h.rows hi
  · simp only [Value.slice.injEq] at e1
    obtain ⟨rfl, -, -⟩ := e1
    have := hs.from_nil (cap := cap) hk; rwa [Nat.mul_one] at this
  · simp only [Value.slice.injEq] at e1
    obtain ⟨rfl, -, -⟩ := e1
    have := hs.from hk hm; rwa [Nat.mul_one] at this

set_option maxRecDepth 100000 in
set_option maxHeartbeats 4000000 in
theorem l2Own_any (vars : Int) (A : Option Addr) (cap : Nat) (xss : List (List Int)) (w : World) (hx : ClsAt w A xss) (hl : xss.length ≤ 1000) (hs : ∀ c ∈ xss, c.length ≤ 1000000) :
    Calls Try.prog 161 #[.agg #[.int .i64 vars, .slice A xss.length cap]] w fun e w' => ∃ B cc cs, e = .returned (.agg #[.int .i64 vars, .slice B xss.length cc]) ∧ Sp w w' [Rows Ty.int 30 (.slice B xss.length cc) cs xss] := by
  obtain ⟨i1, hi, hz0, hz1, hz2⟩ := info_parts infoRow
  have S0 := ((((Sp.start w).alloc_box #[.int .i64 vars, .slice A xss.length cap] 26).alloc_box #[.int .i64 0, .slice none 0 0] 26).rows_made Ty.int 30)
  simp only [World.size_alloc] at S0
  have S1 := S0.alloc_box #[.int .i64 vars, .slice (some ⟨w.heap.size + 1 + 1, 0, none⟩) 0 0] 26
  simp only [World.size_alloc] at S1
  have hX := Lib.hid hx
  have hS := Lib.hid hs
  clear hx hs
  have c0 := S1.cell (i := 3) rfl (o := 0) rfl
  have S1H := Lib.hid S1
  clear S1 S0
  obtain ⟨fo, hfo⟩ : ∃ f, w.heap.size + 1 + 1 + 1 = f := ⟨_, rfl⟩
  rw [hfo] at S1H
  go_enter Try.func161, Try.ntmps161
  go_wp2_with fail
  go_loopw [4] (fun v4 wr => ∃ (k : Nat) (B : Option Addr) (cc : Nat) (cs : List Value) (ys : List (List Int)), k ≤ xss.length ∧ v4 = .int .i64 k ∧ ys.length ≤ 1000 ∧ Hid (ys = xss.take k) ∧ Hid (Sp w wr [Box fo 26 #[.int .i64 vars, .slice B ys.length cc], Rows Ty.int 30 (.slice B ys.length cc) cs ys, Box (w.heap.size + 1) 26 #[.int .i64 0, .slice none 0 0], Box w.heap.size 26 #[.int .i64 vars, .slice A xss.length cap]])) (fun v4 _ => xss.length - (intOf v4).toNat)
  case atStart => exact ⟨0, _, 0, [], [], Nat.zero_le _, rfl, by simp, rfl, S1H⟩
  case round =>
    clear S1H
    obtain ⟨k, B, cc, cs, ys, hk, rfl, hyl, hys, HS⟩ := hrel
    have d1 := HS.out.cell (i := 3) rfl (o := 1) rfl
    by_cases hlt : k < xss.length
    · obtain ⟨ab, aoff, D, dc, rfl, m0, hI⟩ := hX.out.at_ k hlt
      have n0 := cell_below m0 HS.out.below
      have l1 := HS.out.cell (i := 0) rfl (o := 1) rfl
      have HSd := Lib.hid HS.out.drew
      have hcl := Lib.hid (l1OwnI_any D dc xss[k] _ (hI.grow HSd.out.below) (hS.out _ (List.getElem_mem hlt)))
      have hok := Lib.hid hI.ok
      have hnx : Hid (ys ++ [xss[k]] = xss.take (k + 1)) := by unfold Hid; rw [hys.out, take_snoc hlt]
      have hlen2 : (ys ++ [xss[k]]).length ≤ 1000 := by rw [hnx.out, List.length_take]; omega
      have m0H := Lib.hid m0
      generalize xss[k] = c at *
      clear m0 hI hys HS
      replace hlen2 := Lib.hid hlen2
      go_wp2_with fail
      refine wp_region_tail_lit (S := (fun w' => w'.cell? ⟨fo, 1, none⟩ = some (.slice B ys.length cc) ∧ w'.cell? ⟨w.heap.size, 1, none⟩ = some (.slice (some ⟨ab, aoff, none⟩) xss.length cap) ∧ w'.cell? ⟨ab, aoff + k, none⟩ = some (.slice D c.length dc))) 9 [false, false, false, false, false, false, false, false, false, false, false, false] (by kernel_rfl) (by kernel_rfl) (by kernel_rfl) ?_ ?_
      · exact ⟨l1, d1, n0⟩
      intro hSc
      (refine walkT_take (i := 0) (v := ?_) rfl (by kernel_rfl) (by decide) (by kernel_rfl) (by kernel_rfl) (fun _ _ _ h => h) (Or.inl ⟨by rfl, ?_⟩) (by assumption) ?_; rotate_left; (focus (intro w hSw; (try dsimp only at hSw); go_simp; (try with_reducible rfl); done)); (try simp only [put_rules]))
      (refine walkT_take (i := 1) (v := ?_) rfl (by kernel_rfl) (by decide) (by kernel_rfl) (by kernel_rfl) (fun _ _ _ h => h) (Or.inl ⟨by rfl, ?_⟩) (by assumption) ?_; rotate_left; (focus (intro w hSw; (try dsimp only at hSw); go_simp; (try with_reducible rfl); done)); (try simp only [put_rules]))
      (refine walkT_take (i := 2) (v := ?_) rfl (by kernel_rfl) (by decide) (by kernel_rfl) (by kernel_rfl) (fun _ _ _ h => h) (Or.inl ⟨by rfl, ?_⟩) (by assumption) ?_; rotate_left; (focus (intro w hSw; (try dsimp only at hSw); go_simp; (try with_reducible rfl); done)); (try simp only [put_rules]))
      (refine walkT_take (i := 3) (v := ?_) rfl (by kernel_rfl) (by decide) (by kernel_rfl) (by kernel_rfl) (fun _ _ _ h => h) (Or.inl ⟨by rfl, ?_⟩) (by assumption) ?_; rotate_left; (focus (intro w hSw; (try dsimp only at hSw); go_simp; (try with_reducible rfl); done)); (try simp only [put_rules]))
      (refine walkT_take (i := 4) (v := ?_) rfl (by kernel_rfl) (by decide) (by kernel_rfl) (by kernel_rfl) (fun _ _ _ h => h) (Or.inl ⟨by rfl, ?_⟩) (by assumption) ?_; rotate_left; (focus (intro w hSw; (try dsimp only at hSw); go_simp; (try with_reducible rfl); done)); (try simp only [put_rules]))
      (refine walkT_take (i := 5) (v := ?_) rfl (by kernel_rfl) (by decide) (by kernel_rfl) (by kernel_rfl) (fun _ _ _ h => h) (Or.inl ⟨by rfl, ?_⟩) (by assumption) ?_; rotate_left; (focus (intro w hSw; (try dsimp only at hSw); go_simp; (try with_reducible rfl); done)); (try simp only [put_rules]))
      (refine walkT_take (i := 6) (v := ?_) rfl (by kernel_rfl) (by decide) (by kernel_rfl) (by kernel_rfl) (fun _ _ _ h => h) (Or.inl ⟨by rfl, ?_⟩) (by assumption) ?_; rotate_left; (focus (intro w hSw; (try dsimp only at hSw); go_simp; (try with_reducible rfl); done)); (try simp only [put_rules]))
      (refine walkT_ready (rs := [7]) (by kernel_rfl) (by simp) (by decide) ?_; refine AllT.cons rfl (fun K hK => ?_) AllT.nil)
      go_simp
      go_at_call 234
      refine hcl.out.mono ?_
      rintro e w5 ⟨E, ec, rfl, T⟩
      have S5 := Sp.own_to_row (HSd.out.seq T) hok.out
      have S6 := Lib.hid (S5.pick (qs := [Row Ty.int (.slice E c.length ec) c, Rows Ty.int 30 (.slice B ys.length cc) cs ys, Box fo 26 #[.int .i64 vars, .slice B ys.length cc], Box (w.heap.size + 1) 26 #[.int .i64 0, .slice none 0 0], Box w.heap.size 26 #[.int .i64 vars, .slice (some ⟨ab, aoff, none⟩) xss.length cap]]) [0, 1, 0, 0, 0] rfl)
      clear S5 T HSd hcl
      go_wp2_with fail
      refine hK.out _ _ ⟨S6.out.cell (i := 2) rfl (o := 1) rfl, S6.out.cell (i := 4) rfl (o := 1) rfl, cell_below m0H.out S6.out.below⟩ (fun hS2 => ?_)
      clear hK hSc
      (try simp only [put_rules])
      (refine walkT_ready (rs := [8]) (by kernel_rfl) (by simp) (by decide) ?_; refine AllT.cons rfl (fun K hK => ?_) AllT.nil)
      go_simp
      have hrows := Lib.hid ((S6.out.rows (i := 1) rfl).alloc (.cells #[.slice E c.length ec] 30))
      have kB : (w5.alloc (.cells #[.slice E c.length ec] 30)).cell? ⟨w5.heap.size, 0, none⟩ = some (.slice E c.length ec) := cell_of_row _ _ _ _ _ _ (heap_alloc_new w5 _)
      have S7 := Lib.hid (S6.out.alloc (.cells #[.slice E c.length ec] 30))
      refine hK.out _ _ ⟨S7.out.cell (i := 2) rfl (o := 1) rfl, S7.out.cell (i := 4) rfl (o := 1) rfl, cell_below m0H.out S7.out.below⟩ (fun hS3 => ?_)
      clear hK hS2
      (try simp only [put_rules])
      (refine walkT_done (by kernel_rfl) ?_)
      simp only [List.drop_succ_cons, List.drop_zero]
      (refine wpList_append_src rfl _ _ rfl Try.underlying24 hi hz0 hz1 hz2 rfl (by decide) _ ys.length _ rfl hrows.out _ 1 1 [.slice E c.length ec] rfl (Src.one kB) (by simp [Value.oneCell']) (by unfold maxLen; omega) (by omega) ?_; intro vY wY hownY hgY hatY)
      have S8 := S7.out.rows_push (bb _) hownY hgY hatY
      obtain ⟨aY, cY, rfl⟩ := own_slice hownY
      have b1 := S8.cell (i := 1) rfl (o := 1) rfl
      have q1 := S8.frozen (i := 1) rfl 1
      have hlen : ys.length + 1 = (ys ++ [c]).length := by simp
      have S9 := S8.store (i := 1) rfl 1 (.slice aY (ys.length + 1) cY)
      rw [hlen] at S9
      have S10 : Hid (Sp w (wY.setCell ⟨fo, 1, none⟩ (.slice aY (ys.length + 1) cY)) [Box fo 26 #[.int .i64 vars, .slice aY (ys ++ [c]).length cY], Rows Ty.int 30 (.slice aY (ys ++ [c]).length cY) (cs ++ [.slice E c.length ec]) (ys ++ [c]), Box (w.heap.size + 1) 26 #[.int .i64 0, .slice none 0 0], Box w.heap.size 26 #[.int .i64 vars, .slice (some ⟨ab, aoff, none⟩) xss.length cap]]) := by
        rw [hlen]
        exact S9.pick [1, 0, 0, 0] rfl
      clear S6 S7 S8 S9 hrows hownY hgY hatY kB
      replace hlen := Lib.hid hlen
      go_wp2_with fail
      go_roundw
      case rel => exact ⟨k + 1, aY, cY, cs ++ [.slice E c.length ec], ys ++ [c], by omega, by go_num, hlen2.out, hnx, S10⟩
      case measure => simp [intOf]; omega
    · obtain rfl : k = xss.length := by omega
      have hy2 : ys = xss := by have := hys.out; rwa [List.take_length] at this
      subst hy2
      have e0 := HS.out.cell (i := 0) rfl (o := 0) rfl
      have e1 := HS.out.cell (i := 0) rfl (o := 1) rfl
      have r0 := HS.out.cell (i := 2) rfl (o := 0) rfl
      have r1 := HS.out.cell (i := 2) rfl (o := 1) rfl
      have f0 := HS.out.frozen (i := 2) rfl 0
      have f1 := HS.out.frozen (i := 2) rfl 1
      have SF := (HS.out.store (i := 2) rfl 0 (.int .i64 vars)).store (i := 2) rfl 1 (.slice B ys.length cc)
      have j0 := SF.cell (i := 2) rfl (o := 0) rfl
      have j1 := SF.cell (i := 2) rfl (o := 1) rfl
      have hR := Lib.hid (SF.pick (qs := [Rows Ty.int 30 (.slice B ys.length cc) cs ys]) [1] rfl)
      clear HS SF hys
      go_wp2_with fail
      exact bodyPost_ret (v := .agg #[.int .i64 vars, .slice B ys.length cc]) (by simp [results, Try.results161, go_sem, j0, j1]) rfl ⟨B, cc, cs, rfl, hR.out⟩
end Go.Proofs.Ytmikconjhmhekaa

/- Contract: the sides of a Cnf exchanged, in the reference. -/
namespace Go.Proofs.Ytmikconjhmhekaa
open Go.RowKit

/-- A Cnf, a number and whether they are told. -/
def SwapC (w : World) (va : Int) (ys : List (List Int)) (nn : Int) (ok : Bool) (e : Ending) (w' : World) : Prop :=
  ∃ B cc, e = .returned (.tuple #[.agg #[.int .i64 va, .slice B ys.length cc], .int .i64 nn, .bool ok]) ∧ ClsAt w' B ys ∧ Below w.heap.size w w'

set_option maxRecDepth 100000 in
set_option maxHeartbeats 4000000 in
theorem specSwapNo_any (vars : Int) (v : Value) (xss : List (List Int)) (k : Int) (F : List Nat) (w : World) (hx : (Ty.slice Ty.int).row false w v xss F) (hq : askB vars xss k = false) :
    Calls Try.prog 64 #[.agg #[.int .i64 vars, v], .int .i64 k] w (SwapC w 0 [] 0 false) := by
  obtain ⟨A, cap, rfl, hI⟩ := cls_row hx
  have S0 := ((Sp.start w).alloc_box #[.int .i64 vars, .slice A xss.length cap] 26).alloc_box #[.int .i64 0, .slice none 0 0] 26
  simp only [World.size_alloc] at S0
  have hcall := Lib.hid (l29Asked_any vars _ xss k F _ (Ty.row_below hx S0.below (Ty.row_lt hx)))
  rw [hq] at hcall
  have c0 := S0.cell (i := 1) rfl (o := 0) rfl
  have c1 := S0.cell (i := 1) rfl (o := 1) rfl
  replace S0 := Lib.hid S0
  clear hx hI hq
  go_enter Try.func64, Try.ntmps64
  go_wp2_with fail
  refine hcall.out.mono ?_
  rintro e w1 ⟨rfl, hb1⟩
  have S1 := S0.out.grow hb1
  clear hcall S0 hb1 c0 c1
  have r0 := S1.cell (i := 0) rfl (o := 0) rfl
  have r1 := S1.cell (i := 0) rfl (o := 1) rfl
  have f0 := S1.frozen (i := 0) rfl 0
  have f1 := S1.frozen (i := 0) rfl 1
  have SF := (S1.store (i := 0) rfl 0 (.int .i64 0)).store (i := 0) rfl 1 (.slice none 0 0)
  have j0 := SF.cell (i := 0) rfl (o := 0) rfl
  have j1 := SF.cell (i := 0) rfl (o := 1) rfl
  have hB := Lib.hid SF.below
  clear S1 SF
  go_wp2_with fail
  exact bodyPost_ret (v := .tuple #[.agg #[.int .i64 0, .slice none 0 0], .int .i64 0, .bool false]) (by simp [results, Try.results64, go_sem, j0, j1]) rfl ⟨none, 0, rfl, ⟨fun j hj => by simp at hj⟩, hB.out⟩

set_option maxRecDepth 100000 in
set_option maxHeartbeats 8000000 in
theorem specSwapYes_any (n : Nat) (A : Option Addr) (cap : Nat) (xss : List (List Int)) (k : Nat) (F : List Nat) (w : World) (hx : (Ty.slice Ty.int).row false w (.slice A xss.length cap) xss F) (hq : askB n xss k = true) :
    Calls Try.prog 64 #[.agg #[.int .i64 n, .slice A xss.length cap], .int .i64 k] w (SwapC w n (swapC xss k) ((xss.length : Int) - k) true) := by
  obtain ⟨i1, hi, hz0, hz1, hz2⟩ := info_parts infoRow
  obtain ⟨_, _, e1, hI⟩ := cls_row hx
  cases e1
  obtain ⟨hg, -, hk1⟩ := ask_parts hq
  have hgc := good_cnf hg
  have hk : k ≤ xss.length := by omega
  have hl60 := hgc.2.1
  have S0 := ((Sp.start w).alloc_box #[.int .i64 n, .slice A xss.length cap] 26).alloc_box #[.int .i64 0, .slice none 0 0] 26
  simp only [World.size_alloc] at S0
  have hcall := Lib.hid (l29Asked_any n _ xss k F _ (Ty.row_below hx S0.below (Ty.row_lt hx)))
  rw [hq] at hcall
  have how := Lib.hid (fun W (h : Below w.heap.size w W) => l2Own_any n A cap xss W (hI.grow h) (by omega) (fun c hc => by have := (hgc.2.2.2 c hc).2; omega))
  have hw1 : IntKind.i64.wrap ((xss.length : Int) - k) = (xss.length : Int) - k := IntWalk.i64_in _ (by omega)
  have hlen : (swapC xss k).length = xss.length := by simp [swapC]; omega
  replace hlen := Lib.hid hlen
  have c0 := S0.cell (i := 1) rfl (o := 0) rfl
  have c1 := S0.cell (i := 1) rfl (o := 1) rfl
  have hk0 : (0 : Int) ≤ (k : Int) := by omega
  replace S0 := Lib.hid S0
  clear hx hI hq hg hgc hk1
  go_enter Try.func64, Try.ntmps64
  go_wp2_with fail
  refine hcall.out.mono ?_
  rintro e w1 ⟨rfl, hb1⟩
  have S1 := Lib.hid (S0.out.grow hb1)
  clear hcall S0 hb1 c0 c1
  have c0 := S1.out.cell (i := 1) rfl (o := 0) rfl
  have c1 := S1.out.cell (i := 1) rfl (o := 1) rfl
  have how2 := Lib.hid (how.out w1 S1.out.below)
  clear how
  go_wp2_with fail
  refine how2.out.mono ?_
  rintro e w2 ⟨B, cc, cs, rfl, T⟩
  have S2 := (S1.out.seq T).alloc_box #[.int .i64 n, .slice B xss.length cc] 26
  obtain ⟨ob, hob⟩ : ∃ p, w2.heap.size = p := ⟨_, rfl⟩
  rw [hob] at S2
  have S3 : Hid (Sp w (w2.alloc (.cells #[.int .i64 n, .slice B xss.length cc] 26)).drew [Box ob 26 #[.int .i64 n, .slice B xss.length cc], Rows Ty.int 30 (.slice B xss.length cc) cs xss, Box (w.heap.size + 1) 26 #[.int .i64 0, .slice none 0 0], Box w.heap.size 26 #[.int .i64 n, .slice A xss.length cap]]) := S2.drew
  clear S1 S2 T how2 c0 c1
  have hcc : xss.length ≤ cc := by
    obtain ⟨FR, hR, -⟩ := S3.out.rows_done (i := 1) rfl
    obtain ⟨_, _, e1, h, -⟩ := Ty.row_len hR
    cases e1; exact h
  have hs1 := Lib.hid (rows_fromV S3.out (i := 1) rfl hk hcc)
  have hs2 := Lib.hid ((rows_srcV S3.out (i := 1) rfl).to hk)
  have ho := (rows_clsV S3.out (i := 1) rfl).2
  have ho1 := Lib.hid (fun u (hu : u ∈ cs.drop k) => ho u (List.mem_of_mem_drop hu))
  have ho2 := Lib.hid (fun u (hu : u ∈ cs.take (k * 1)) => ho u (List.mem_of_mem_take hu))
  clear ho
  have e0 := S3.out.cell (i := 0) rfl (o := 0) rfl
  have e1 := S3.out.cell (i := 0) rfl (o := 1) rfl
  have d0 := S3.out.cell (i := 3) rfl (o := 0) rfl
  have d1 := S3.out.cell (i := 3) rfl (o := 1) rfl
  go_wp2_with fail
  have hsz : (w2.alloc (.cells #[.int .i64 n, .slice B xss.length cc] 26)).drew.heap.size = ob + 1 := by rw [← hob]; exact World.size_alloc _ _
  refine wp_region_held_lit (S := (fun w' => w'.cell? ⟨ob, 1, none⟩ = some (.slice B xss.length cc) ∧ w'.cell? ⟨w.heap.size, 0, none⟩ = some (.int .i64 n) ∧ w'.cell? ⟨w.heap.size, 1, none⟩ = some (.slice A xss.length cap))) 22 [false, false, false, false, false, false, false, false, false, false, false, false, false, false, false, false, false, false, false, false, false, false] (by kernel_rfl) (by kernel_rfl) (by kernel_rfl) ?_ ?_
  · exact ⟨e1, d0, d1⟩
  intro hSc
  (refine wpAnyH_take (i := 0) (v := ?_) rfl (by kernel_rfl) (by kernel_rfl) (by kernel_rfl) (fun _ _ _ h => h) (Or.inl ⟨by rfl, ?_⟩) (by assumption) ?_; rotate_left; (focus (intro w hSw; (try dsimp only at hSw); go_simp; (try with_reducible rfl); done)); (try simp only [put_rules]))
  (refine wpAnyH_take (i := 1) (v := ?_) rfl (by kernel_rfl) (by kernel_rfl) (by kernel_rfl) (fun _ _ _ h => h) (Or.inl ⟨by rfl, ?_⟩) (by assumption) ?_; rotate_left; (focus (intro w hSw; (try dsimp only at hSw); go_simp; (try with_reducible rfl); done)); (try simp only [put_rules]))
  (refine wpAnyH_take (i := 3) (v := ?_) rfl (by kernel_rfl) (by kernel_rfl) (by kernel_rfl) (fun _ _ _ h => h) (Or.inl ⟨by rfl, ?_⟩) (by assumption) ?_; rotate_left; (focus (intro w hSw; (try dsimp only at hSw); go_simp; (try with_reducible rfl); done)); (try simp only [put_rules]))
  (refine wpAnyH_take (i := 4) (v := ?_) rfl (by kernel_rfl) (by kernel_rfl) (by kernel_rfl) (fun _ _ _ h => h) (Or.inl ⟨by rfl, ?_⟩) (by assumption) ?_; rotate_left; (focus (intro w hSw; (try dsimp only at hSw); go_simp; (try with_reducible rfl); done)); (try simp only [put_rules]))
  (refine wpAnyH_take (i := 5) (v := ?_) rfl (by kernel_rfl) (by kernel_rfl) (by kernel_rfl) (fun _ _ _ h => h) (Or.inl ⟨by rfl, ?_⟩) (by assumption) ?_; rotate_left; (focus (intro w hSw; (try dsimp only at hSw); go_simp; (try with_reducible rfl); done)); (try simp only [put_rules]))
  (refine wpAnyH_take (i := 6) (v := .slice (cutA B cc k 1) (xss.length - k) (cc - k)) rfl (by kernel_rfl) (by kernel_rfl) (by kernel_rfl) (fun _ _ _ h => h) (Or.inl ⟨by rfl, fun _ _ => exec_slice_from rfl rfl rfl Try.underlying24 hi hz1 (by omega)⟩) (by assumption) ?_; (try simp only [put_rules]))
  (refine wpAnyH_take (i := 8) (v := ?_) rfl (by kernel_rfl) (by kernel_rfl) (by kernel_rfl) (fun _ _ _ h => h) (Or.inl ⟨by rfl, ?_⟩) (by assumption) ?_; rotate_left; (focus (intro w hSw; (try dsimp only at hSw); go_simp; (try with_reducible rfl); done)); (try simp only [put_rules]))
  (refine wpAnyH_take (i := 9) (v := ?_) rfl (by kernel_rfl) (by kernel_rfl) (by kernel_rfl) (fun _ _ _ h => h) (Or.inl ⟨by rfl, ?_⟩) (by assumption) ?_; rotate_left; (focus (intro w hSw; (try dsimp only at hSw); go_simp; (try with_reducible rfl); done)); (try simp only [put_rules]))
  (refine wpAnyH_take (i := 10) (v := ?_) rfl (by kernel_rfl) (by kernel_rfl) (by kernel_rfl) (fun _ _ _ h => h) (Or.inl ⟨by rfl, ?_⟩) (by assumption) ?_; rotate_left; (focus (intro w hSw; (try dsimp only at hSw); go_simp; (try with_reducible rfl); done)); (try simp only [put_rules]))
  (refine wpAnyH_take (i := 11) (v := .slice B k cc) rfl (by kernel_rfl) (by kernel_rfl) (by kernel_rfl) (fun _ _ _ h => h) (Or.inl ⟨by rfl, fun _ _ => exec_slice_to rfl rfl rfl Try.underlying24 hi (by omega)⟩) (by assumption) ?_; (try simp only [put_rules]))
  (refine wpAnyH_take (i := 14) (v := ?_) rfl (by kernel_rfl) (by kernel_rfl) (by kernel_rfl) (fun _ _ _ h => h) (Or.inl ⟨by rfl, ?_⟩) (by assumption) ?_; rotate_left; (focus (intro w hSw; (try dsimp only at hSw); go_simp; (try with_reducible rfl); done)); (try simp only [put_rules]))
  (refine wpAnyH_take (i := 15) (v := ?_) rfl (by kernel_rfl) (by kernel_rfl) (by kernel_rfl) (fun _ _ _ h => h) (Or.inl ⟨by rfl, ?_⟩) (by assumption) ?_; rotate_left; (focus (intro w hSw; (try dsimp only at hSw); go_simp; (try with_reducible rfl); done)); (try simp only [put_rules]))
  (refine wpAnyH_take (i := 16) (v := ?_) rfl (by kernel_rfl) (by kernel_rfl) (by kernel_rfl) (fun _ _ _ h => h) (Or.inl ⟨by rfl, ?_⟩) (by assumption) ?_; rotate_left; (focus (intro w hSw; (try dsimp only at hSw); go_simp; (try with_reducible rfl); done)); (try simp only [put_rules]))
  (refine wpAnyH_take (i := 17) (v := ?_) rfl (by kernel_rfl) (by kernel_rfl) (by kernel_rfl) (fun _ _ _ h => h) (Or.inl ⟨by rfl, ?_⟩) (by assumption) ?_; rotate_left; (focus (intro w hSw; (try dsimp only at hSw); go_simp; (try with_reducible rfl); done)); (try simp only [put_rules]))
  (refine wpAnyH_take (i := 18) (v := ?_) rfl (by kernel_rfl) (by kernel_rfl) (by kernel_rfl) (fun _ _ _ h => h) (Or.inl ⟨by rfl, ?_⟩) (by assumption) ?_; rotate_left; (focus (intro w hSw; (try dsimp only at hSw); go_simp; (try with_reducible rfl); done)); (try simp only [put_rules]))
  clear e0 e1 d0 d1
  (refine wpAnyH_ready (rs := [2]) (by kernel_rfl) (by simp) ?_; refine AllReadyH.cons rfl (fun K hK => ?_) AllReadyH.nil)
  go_simp
  have S4 := S3.out.own_made 30 1
  rw [hsz] at S4
  replace S4 := Lib.hid S4
  clear S3 hob hsz
  refine hK.out _ _ ⟨S4.out.cell (i := 1) rfl (o := 1) rfl, S4.out.cell (i := 4) rfl (o := 0) rfl, S4.out.cell (i := 4) rfl (o := 1) rfl⟩ (fun hS1 => ?_)
  clear hK hSc
  (try simp only [put_rules])
  (refine wpAnyH_ready (rs := [7]) (by kernel_rfl) (by simp) ?_; refine AllReadyH.cons rfl (fun K hK => ?_) AllReadyH.nil)
  (refine step_append_src rfl _ _ rfl Try.underlying24 hi hz0 hz1 hz2 rfl (by decide) _ 0 _ rfl (S4.out.own (i := 0) rfl) _ (xss.length - k) (cc - k) _ rfl (hs1.out.grow (bal (bb _) _)) ho1.out (by unfold maxLen; omega) (by omega) ?_; intro vA wA hownA hgA hatA)
  have S5 := S4.out.own_push (i := 0) rfl (bb _) hownA hgA hatA
  obtain ⟨aA, cA, rfl⟩ := owns_form hownA
  rw [Nat.zero_add, List.nil_append] at S5
  clear hownA hgA hatA
  simp only [Nat.zero_add]
  replace S5 := Lib.hid S5
  have hs3 := Lib.hid (rows_srcV S5.out (i := 2) rfl |>.to hk)
  clear S4 hs1 hs2
  refine hK.out _ _ ⟨S5.out.cell (i := 1) rfl (o := 1) rfl, S5.out.cell (i := 4) rfl (o := 0) rfl, S5.out.cell (i := 4) rfl (o := 1) rfl⟩ (fun hS2 => ?_)
  clear hK hS1
  (try simp only [put_rules])
  (refine wpAnyH_ready (rs := [12]) (by kernel_rfl) (by simp) ?_; refine AllReadyH.cons rfl (fun K hK => ?_) AllReadyH.nil)
  (refine step_append_src rfl _ _ rfl Try.underlying24 hi hz0 hz1 hz2 rfl (by decide) _ (xss.length - k) _ rfl (S5.out.own (i := 0) rfl) _ k cc _ rfl hs3.out ho2.out (by unfold maxLen; omega) (by omega) ?_; intro vB wB hownB hgB hatB)
  have S6 := S5.out.own_push (i := 0) rfl (bb _) hownB hgB hatB
  obtain ⟨aB, cB, rfl⟩ := owns_form hownB
  rw [Nat.mul_one, show xss.length - k + k = xss.length by omega] at S6
  rw [show xss.length - k + k = xss.length by omega]
  clear hownB hgB hatB
  replace S6 := Lib.hid S6
  clear S5 hs3 ho1 ho2
  refine hK.out _ _ ⟨S6.out.cell (i := 1) rfl (o := 1) rfl, S6.out.cell (i := 4) rfl (o := 0) rfl, S6.out.cell (i := 4) rfl (o := 1) rfl⟩ (fun hS3 => ?_)
  clear hK hS2
  (try simp only [put_rules])
  (refine wpAnyH_take (i := 13) (v := ?_) rfl (by kernel_rfl) (by kernel_rfl) (by kernel_rfl) (fun _ _ _ h => h) (Or.inl ⟨by rfl, ?_⟩) (by assumption) ?_; rotate_left; (focus (intro w hSw; (try dsimp only at hSw); go_simp; (try with_reducible rfl); done)); (try simp only [put_rules]))
  have r0 := S6.out.cell (i := 3) rfl (o := 0) rfl
  have r1 := S6.out.cell (i := 3) rfl (o := 1) rfl
  have f0 := S6.out.frozen (i := 3) rfl 0
  have f1 := S6.out.frozen (i := 3) rfl 1
  (refine wpAnyH_ready (rs := [19]) (by kernel_rfl) (by simp) ?_; refine AllReadyH.cons rfl (fun K hK => ?_) AllReadyH.nil)
  go_simp
  have SF := (S6.out.store (i := 3) rfl 0 (.int .i64 n)).store (i := 3) rfl 1 (.slice aB xss.length cB)
  have j0 := SF.cell (i := 3) rfl (o := 0) rfl
  have j1 := SF.cell (i := 3) rfl (o := 1) rfl
  refine hK.out _ _ ⟨SF.cell (i := 1) rfl (o := 1) rfl, SF.cell (i := 4) rfl (o := 0) rfl, SF.cell (i := 4) rfl (o := 1) rfl⟩ (fun hS4 => ?_)
  clear hK hS3
  (try simp only [put_rules])
  (refine wpAnyH_take (i := 20) (v := ?_) rfl (by kernel_rfl) (by kernel_rfl) (by kernel_rfl) (fun _ _ _ h => h) (Or.inl ⟨by rfl, ?_⟩) (by assumption) ?_; rotate_left; (focus (intro w hSw; (try dsimp only at hSw); go_simp; (try with_reducible rfl); done)); (try simp only [put_rules]))
  (refine wpAnyH_take (i := 21) (v := ?_) rfl (by kernel_rfl) (by kernel_rfl) (by kernel_rfl) (fun _ _ _ h => h) (Or.inl ⟨by rfl, ?_⟩) (by assumption) ?_; rotate_left; (focus (intro w hSw; (try dsimp only at hSw); go_simp; (try with_reducible rfl); done)); (try simp only [put_rules]))
  (refine wpAnyH_done (by kernel_rfl) ?_ _)
  (try simp only [put_rules])
  obtain ⟨wz, hwz⟩ : ∃ z, (wB.setCell ⟨w.heap.size + 1, 0, none⟩ (.int .i64 n)).setCell ⟨w.heap.size + 1, 1, none⟩ (.slice aB xss.length cB) = z := ⟨_, rfl⟩
  rw [hwz] at SF
  have hV := (rows_clsV SF (i := 2) rfl).1
  have hown := SF.own (i := 0) rfl
  rw [← hlen.out] at hown
  have hC := Lib.hid (((hV.drop k).append (hV.take k)).own (xss := swapC xss k) hown)
  have hB := Lib.hid SF.below
  clear S6 SF hS4 hV hown
  subst hwz
  go_wp2_with fail
  exact bodyPost_ret (v := .tuple #[.agg #[.int .i64 n, .slice aB xss.length cB], .int .i64 ((xss.length : Int) - k), .bool true]) (by simp [results, Try.results64, go_sem, j0, j1]) rfl ⟨aB, cB, by rw [hlen.out], hC.out, hB.out⟩
end Go.Proofs.Ytmikconjhmhekaa

/- Plain facts: decimals, checksums, sealed strings, splitting. No program in sight. -/
namespace Go.Proofs.Ytmikconjhmhekaa

theorem decDigits_big {u : Nat} (h : ¬ u < 10) : Lib.decDigits u = Lib.decDigits (u / 10) ++ [UInt8.ofNat (48 + u % 10)] := by rw [Lib.decDigits, dif_neg h]
theorem itoa_nat (u : Nat) : Lib.itoa u = Lib.decDigits u := by simp [Lib.itoa, Int.not_lt.2 (Int.natCast_nonneg u)]
theorem itoa_neg (u : Nat) (h : 0 < u) : Lib.itoa (-(u : Int)) = 45 :: Lib.decDigits u := by
  rw [Lib.itoa, if_pos (by omega)]; congr 2; omega
theorem digit_at : ∀ k : Nat, k < 10 → (ByteArray.mk #[48, 49, 50, 51, 52, 53, 54, 55, 56, 57]).extract k (k + 1) = ms [UInt8.ofNat (48 + k)] := by
  intro k hk
  apply bl_inj
  rw [bl_extract, bl_ms]
  match k, hk with
  | 0, _ => rfl
  | 1, _ => rfl
  | 2, _ => rfl
  | 3, _ => rfl
  | 4, _ => rfl
  | 5, _ => rfl
  | 6, _ => rfl
  | 7, _ => rfl
  | 8, _ => rfl
  | 9, _ => rfl
theorem decDigits_ne (u : Nat) : Lib.decDigits u ≠ [] := by
  by_cases h : u < 10
  · rw [Lib.decDigits, dif_pos h]; simp
  · rw [decDigits_big h]; simp
theorem decDigits_len : ∀ (k u : Nat), u < 10 ^ (k + 1) → (Lib.decDigits u).length ≤ k + 1
  | 0, u, h => by rw [Lib.decDigits, dif_pos (by simpa using h)]; simp
  | k + 1, u, h => by
    by_cases h1 : u < 10
    · rw [Lib.decDigits, dif_pos h1]; simp
    · rw [decDigits_big h1, List.length_append]
      have := decDigits_len k (u / 10) (by rw [Nat.pow_succ] at h; omega)
      simp; omega
theorem decDigits_digit : ∀ (n u : Nat), u ≤ n → ∀ c ∈ Lib.decDigits u, 48 ≤ c.toNat ∧ c.toNat ≤ 57
  | n, u, hn => by
    intro c hc
    by_cases h1 : u < 10
    · rw [Lib.decDigits, dif_pos h1] at hc
      simp at hc; subst hc
      simp; omega
    · rw [decDigits_big h1] at hc
      rcases List.mem_append.1 hc with hc | hc
      · cases n with
        | zero => omega
        | succ n => exact decDigits_digit n (u / 10) (by omega) c hc
      · simp at hc; subst hc
        simp; omega
termination_by n => n

/-- The checksum. -/
def sumB (l : List UInt8) : Int := l.foldl (fun h c => (41 * h + c.toNat + 1) % 999979) 7
theorem sumB_snoc (l : List UInt8) (c : UInt8) : sumB (l ++ [c]) = (41 * sumB l + c.toNat + 1) % 999979 := by simp [sumB]
theorem sumB_nil : sumB [] = 7 := rfl
theorem sumB_range (l : List UInt8) : 0 ≤ sumB l ∧ sumB l < 999979 := by
  rcases List.eq_nil_or_concat l with rfl | ⟨l', c, rfl⟩
  · exact ⟨by decide, by decide⟩
  · rw [List.concat_eq_append, sumB_snoc]; omega
/-- The sealed string. -/
def sealB (l : List UInt8) : List UInt8 := l ++ 35 :: Lib.itoa (sumB l)
theorem itoa_len {n : Int} (h0 : 0 ≤ n) (h : n < 1000000) : (Lib.itoa n).length ≤ 6 := by
  obtain ⟨u, rfl⟩ := Int.eq_ofNat_of_zero_le h0
  rw [itoa_nat]
  exact decDigits_len 5 u (by omega)
theorem sealB_length (l : List UInt8) : (sealB l).length ≤ l.length + 7 := by
  have := sumB_range l
  have := itoa_len this.1 (by omega)
  simp [sealB]; omega
end Go.Proofs.Ytmikconjhmhekaa
