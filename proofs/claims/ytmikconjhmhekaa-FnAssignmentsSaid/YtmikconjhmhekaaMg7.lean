/- Lemmas and contracts for a law, put together out of several texts: CoF CoG SdJ SdK SdL MdQ AsA AsB AsC AsD. -/
import Derived.Test.YtmikconjhmhekaaMg5
import Derived.Test.YtmikconjhmhekaaMg6
import Derived.Test.YtmikconjhmhekaaMg3
import Derived.Shelf.Spec.SlicesGrow
import Derived.Test.YtmikconjhmhekaaMg4
/- Contract: the core of a Cnf, in the program. -/
namespace Go.Proofs.Ytmikconjhmhekaa
open Go.RowKit

theorem own_cap' {w : World} {B : Nat} {e : TypeId} {size n c : Nat} {A : Option Addr} {xs : List Value} (h : w.ownsRow B e size (.slice A n c) n xs) : n ≤ c := by
  obtain ⟨_, ⟨h1, _⟩ | ⟨g, cap, cur, h1, _, _, hn, _⟩⟩ := h
  · cases h1; exact Nat.le_refl _
  · cases h1; exact hn

set_option maxRecDepth 100000 in
set_option maxHeartbeats 8000000 in
theorem implCoreOf_any (vars : Int) (v : Value) (xss : List (List Int)) (F : List Nat) (w : World) (hx : (Ty.slice Ty.int).row false w v xss F) :
    Calls Try.prog 26 #[.agg #[.int .i64 vars, v]] w (IAnsC w (coreOk vars.toNat vars xss) (if coreOk vars.toNat vars xss then ofN (coreL vars.toNat xss) else [])) := by
  obtain ⟨A, cap, rfl, hI⟩ := cls_row hx
  have S0 := (Sp.start w).alloc_box #[.int .i64 vars, .slice A xss.length cap] 26
  have hcall := Lib.hid (implIsCnf_any vars _ xss F _ (Ty.row_below hx S0.below (Ty.row_lt hx)))
  replace S0 := Lib.hid S0
  have c0 := S0.out.cell (i := 0) rfl (o := 0) rfl
  have c1 := S0.out.cell (i := 0) rfl (o := 1) rfl
  clear hx
  cases h1 : goodB vars xss
  · rw [h1] at hcall
    rw [show coreOk vars.toNat vars xss = false by unfold coreOk; rw [h1]; rfl]
    go_enter Try.func26, Try.ntmps26
    go_wp2_with fail
    refine hcall.out.mono ?_
    rintro e w1 ⟨rfl, hb1⟩
    have hB := Lib.hid (S0.out.grow hb1).below
    clear hcall S0 c0 c1 hb1
    go_wp2_with fail
    go_ret2
    exact ⟨none, 0, rfl, ⟨fun j hj => by simp at hj, fun c hc => by simp at hc⟩, by simp, hB.out⟩
  have hg := good_cnf h1
  rw [h1] at hcall
  obtain ⟨n, rfl⟩ := Int.eq_ofNat_of_zero_le hg.1.1
  rw [show (n : Int).toNat = n by omega]
  have hn : n ≤ 12 := by omega
  have hsat := Lib.hid (fun W hb => satisfiable_any n hn xss hg.2.2.2 (by omega) A cap W (hI.grow hb))
  have hok : coreOk n n xss = !(List.range (2 ^ n)).any (modT xss) := by unfold coreOk; rw [h1, Bool.true_and]
  rw [hok]
  have hall := core_all (n := n) (xss := xss)
  have hl60 := hg.2.1
  cases hq : (List.range (2 ^ n)).any (modT xss)
  case true =>
    rw [hq] at hsat
    go_enter Try.func26, Try.ntmps26
    go_wp2_with fail
    refine hcall.out.mono ?_
    rintro e w1 ⟨rfl, hb1⟩
    have S1 := Lib.hid (S0.out.grow hb1)
    clear hcall S0 c0 c1 hb1
    have c0 := S1.out.cell (i := 0) rfl (o := 0) rfl
    have c1 := S1.out.cell (i := 0) rfl (o := 1) rfl
    go_wp2_with fail
    refine (hsat.out _ S1.out.below).mono ?_
    rintro e w2 ⟨rfl, hb2⟩
    have hB := Lib.hid (S1.out.grow hb2).below
    clear hsat S1 c0 c1 hb2
    go_wp2_with fail
    go_ret2
    exact ⟨none, 0, rfl, ⟨fun j hj => by simp at hj, fun c hc => by simp at hc⟩, by simp, hB.out⟩
  case false =>
    rw [hq] at hsat hall
    have hx0 : 0 < xss.length := by
      rcases Nat.eq_zero_or_pos xss.length with h | h
      · obtain rfl : xss = [] := List.length_eq_zero_iff.1 h
        have := List.any_eq_false.1 hq 0 (List.mem_range.2 (Nat.two_pow_pos n))
        simp [modT] at this
      · exact h
    have hic := Lib.hid (fun is (hi : AscN xss.length is) D dc W (h : Below w.heap.size w W) (hy : IntsAt W D (ofN is)) => isCore_any n hn xss hg.2.2.2 is hi.2 (by have := asc_len hi; omega) A D cap dc W (hI.grow h) hy)
    have hcL : Hid (coreGo (coreB n xss) [] (List.range' 0 (xss.length - 0)) = coreL n xss) := by unfold Hid coreL; rw [Nat.sub_zero, List.range_eq_range']
    have has0 : Hid (AscN xss.length ([] ++ List.range' 0 (xss.length - 0))) := by
      unfold Hid
      rw [Nat.sub_zero, List.nil_append, ← List.range_eq_range']
      exact range_asc _
    obtain ⟨P, hP⟩ : ∃ P, coreB n xss = P := ⟨_, rfl⟩
    rw [hP] at hcL
    simp only [hP] at hic
    generalize coreL n xss = CL at *
    simp only [Bool.not_false, if_true]
    have hclen : Hid (∀ x ∈ ofN CL, I64 x) := by
      unfold Hid
      refine ofN_ok (m := xss.length) (by omega) ?_
      rw [← hcL.out]
      have := coreGo_sub P (List.range' 0 (xss.length - 0)) []
      exact has0.out.sub this
    obtain ⟨m, hm⟩ : ∃ m, xss.length = m := ⟨_, rfl⟩
    rw [hm] at S0 c1 hcall hsat hic hcL has0 hx0 hl60 ⊢
    clear hI hg h1 hall hq hok hP
    replace hm := Lib.hid hm
    go_enter Try.func26, Try.ntmps26
    go_wp2_with fail
    refine hcall.out.mono ?_
    rintro e w1 ⟨rfl, hb1⟩
    have S1 := Lib.hid (S0.out.grow hb1)
    clear hcall S0 c0 c1 hb1
    have c0 := S1.out.cell (i := 0) rfl (o := 0) rfl
    have c1 := S1.out.cell (i := 0) rfl (o := 1) rfl
    go_wp2_with fail
    refine (hsat.out _ S1.out.below).mono ?_
    rintro e w2 ⟨rfl, hb2⟩
    have S2 := Lib.hid (S1.out.grow hb2)
    clear hsat S1 c0 c1 hb2
    have c1 := S2.out.cell (i := 0) rfl (o := 1) rfl
    go_wp2_with fail
    refine (upTo_any m (by omega) _).mono ?_
    rintro e w3 ⟨B, c, rfl, T3⟩
    rw [← decL_zero] at T3
    obtain ⟨gb, cap', cur, e1, -⟩ := own_block (T3.own (i := 0) rfl) hx0
    simp only [Value.slice.injEq] at e1
    obtain ⟨rfl, -, rfl⟩ := e1
    have S3 : Hid (Sp w w3 [Own 3 1 (.slice (some ⟨gb, 0, none⟩) m c) m (decL m 0), Box w.heap.size 26 #[.int .i64 n, .slice A m cap]]) := S2.out.seq T3
    clear S2 T3 c1
    go_wp2_with fail
    go_loopw [5, 24] (fun _ vi wr => ∃ k : Nat, k ≤ m ∧ vi = .int .i64 k ∧ Hid (Sp w wr [Own 3 1 (.slice (some ⟨gb, 0, none⟩) m c) m (decL m k), Box w.heap.size 26 #[.int .i64 n, .slice A m cap]])) (fun _ vi _ => m - (intOf vi).toNat)
    case atStart => exact ⟨0, Nat.zero_le _, rfl, S3⟩
    case round =>
      obtain ⟨k, hk, rfl, HS⟩ := hrel
      clear S3
      by_cases hlt : k < m
      · obtain ⟨g', cap', cur, e1, -, hh, -, -, -, ht⟩ := own_block (HS.out.own (i := 0) rfl) hx0
        simp only [Value.slice.injEq, Option.some.injEq, Addr.mk.injEq] at e1
        obtain ⟨⟨rfl, -⟩, -, rfl⟩ := e1
        have m0 := (own_at hh ht (o := k) (by omega)).1.trans (decL_at hlt)
        have f0 := (own_at hh ht (o := k) (by omega)).2
        have hw1 : IntKind.i64.wrap ((k : Int) + 1 - 1) = (k : Int) := by rw [IntWalk.i64_in _ (by omega)]; omega
        have S4 := HS.out.own_put (i := 0) rfl (.int .i64 (k : Int)) (o := k) (by omega)
        rw [decL_set hlt] at S4
        replace S4 := Lib.hid S4
        clear HS hh ht
        go_wp2_with fail
        go_roundw
        case rel => exact ⟨k + 1, by omega, by go_num, S4⟩
        case measure => simp [intOf]; omega
      · obtain rfl : k = m := by omega
        have S4 : Hid (Sp w wr [Own 3 1 (.slice (some ⟨gb, 0, none⟩) ([] ++ List.range' 0 (k - 0)).length c) ([] ++ List.range' 0 (k - 0)).length ((ofN ([] ++ List.range' 0 (k - 0))).map (.int .i64)), Box w.heap.size 26 #[.int .i64 n, .slice A k cap]]) := by
          unfold Hid
          have := HS.out
          rw [decL_all, List.range_eq_range'] at this
          simpa using this
        have hkl : ([] ++ List.range' 0 (k - 0) : List Nat).length = k := by simp
        have c1 := HS.out.cell (i := 1) rfl (o := 1) rfl
        clear HS
        go_wp2_with fail
        go_loopw [4, 6, 7, 37] (fun vc _ _ vi wx => ∃ (i l : Nat) (kept : List Nat) (B : Option Addr) (cc : Nat), i ≤ k ∧ l ≤ k ∧ vi = .int .i64 i ∧ vc = .slice B l cc ∧ Hid ((kept ++ List.range' i (k - i)).length = l) ∧ Hid (coreGo P kept (List.range' i (k - i)) = CL) ∧ Hid (AscN k (kept ++ List.range' i (k - i))) ∧
          Hid (Sp w wx [Own 3 1 (.slice B l cc) l ((ofN (kept ++ List.range' i (k - i))).map (.int .i64)), Box w.heap.size 26 #[.int .i64 n, .slice A k cap]])) (fun _ _ _ vi _ => k - (intOf vi).toNat)
        case atStart => exact ⟨0, k, [], _, c, Nat.zero_le _, Nat.le_refl _, rfl, rfl, hkl, hcL, has0, by rw [hkl] at S4; exact S4⟩
        case round =>
          obtain ⟨i, l, kept, B, cc, hi, hl, rfl, rfl, hkl2, hgo, has, HS⟩ := hrel
          clear S4 hcL has0 c1 hkl
          by_cases hlt2 : i < k
          · have hrf := range_front hlt2
            have hasH := has.out
            have hgoH := hgo.out
            have hklH := hkl2.out
            have hSH := HS.out
            rw [hrf] at hasH hgoH hklH hSH
            obtain ⟨rest, hrest⟩ : ∃ r, List.range' (i + 1) (k - (i + 1)) = r := ⟨_, rfl⟩
            rw [hrest] at hasH hgoH hklH hSH
            have hoI := ofN_ok (by omega) hasH
            have hol : (ofN (kept ++ i :: rest)).length = l := by rw [ofN_len]; exact hklH
            have hown := hSH.own (i := 0) rfl
            rw [← hol] at hown
            obtain ⟨B', c', e1, hT⟩ := ints_own hown hoI
            simp only [Value.slice.injEq] at e1
            obtain ⟨rfl, -, rfl⟩ := e1
            have hkn : kept.length < l := by rw [← hklH]; simp
            have hidx := indexI_any B l cc kept.length _ (i : Int) wr hT hol (by omega) mid_at (mid_no hasH)
            have hwo := withoutI_any B l cc kept.length _ wr hT hol (by omega) hkn
            rw [ofN_erase] at hwo
            have has2 : AscN k (kept ++ rest) := hasH.sub (List.Sublist.append_left (List.sublist_cons_self _ _) _)
            have hlen2 : (kept ++ rest).length = l - 1 := by rw [← hklH]; simp
            have hlen3 : ((kept ++ [i]) ++ rest).length = l := by rw [← hklH]; simp
            have hl2 : (ofN (kept ++ rest)).length = l - 1 := by rw [ofN_len]; exact hlen2
            have hS3 : Sp w wr [Own 3 1 (.slice B l cc) l ((ofN ((kept ++ [i]) ++ rest)).map (.int .i64)), Box w.heap.size 26 #[.int .i64 n, .slice A k cap]] := by
              rw [List.append_assoc]; exact hSH
            have has3 : AscN k ((kept ++ [i]) ++ rest) := by rw [List.append_assoc]; exact hasH
            have hyes := fun (h : P (kept ++ rest) = true) => (coreGo_yes h).symm.trans hgoH
            have hno := fun (h : P (kept ++ rest) = false) => (coreGo_no h).symm.trans hgoH
            replace hidx := Lib.hid hidx
            replace hwo := Lib.hid hwo
            replace hyes := Lib.hid hyes
            replace hno := Lib.hid hno
            replace has2 := Lib.hid has2
            replace has3 := Lib.hid has3
            replace hS3 := Lib.hid hS3
            replace hlen2 := Lib.hid hlen2
            replace hlen3 := Lib.hid hlen3
            replace hl2 := Lib.hid hl2
            have hoI2 := Lib.hid (ofN_ok (by omega) has2.out)
            replace hrest := Lib.hid hrest
            obtain ⟨kl, hkle⟩ : ∃ kl, kept.length = kl := ⟨_, rfl⟩
            rw [hkle] at hidx hwo hkn
            replace hkle := Lib.hid hkle
            clear hrf hasH hgoH hklH hSH hgo has hkl2 HS hoI hol hown hT
            have c1 := hS3.out.cell (i := 1) rfl (o := 1) rfl
            go_wp2_with fail
            refine hidx.out.mono ?_
            rintro e w4 ⟨rfl, hww⟩
            subst hww
            go_wp2_with fail
            refine hwo.out.mono ?_
            rintro e w5 ⟨B5, c5, rfl, T5⟩
            have S5 := hS3.out.seq T5
            have hown5 := S5.own (i := 0) rfl
            rw [← hl2.out] at hown5
            obtain ⟨B', c', e1, hT5⟩ := ints_own hown5 hoI2.out
            rw [hl2.out] at e1
            simp only [Value.slice.injEq] at e1
            obtain ⟨rfl, -, rfl⟩ := e1
            have hcc := hic.out _ has2.out B5 c5 w5 S5.below hT5
            rw [hlen2.out] at hcc
            have d0 := S5.cell (i := 2) rfl (o := 0) rfl
            have d1 := S5.cell (i := 2) rfl (o := 1) rfl
            replace S5 := Lib.hid S5
            replace hcc := Lib.hid hcc
            obtain ⟨q, hqq⟩ : ∃ q, P (kept ++ rest) = q := ⟨_, rfl⟩
            rw [hqq] at hcc
            replace hqq := Lib.hid hqq
            clear hidx hwo hS3 T5 hown5 hT5 c1
            go_wp2_with fail
            refine hcc.out.mono ?_
            rintro e w6 ⟨rfl, hb6⟩
            have S6 := Lib.hid (S5.out.grow hb6)
            clear hcc S5 hb6 d0 d1
            cases q
            · have hgo2 := hno.out hqq.out
              rw [← hrest.out] at hgo2
              replace hgo2 := Lib.hid hgo2
              have hl3 := hlen3.out
              rw [← hrest.out] at hl3
              replace hl3 := Lib.hid hl3
              have ha3 := has3.out
              rw [← hrest.out] at ha3
              replace ha3 := Lib.hid ha3
              have S7 : Hid (Sp w w6 [Own 3 1 (.slice B l cc) l ((ofN ((kept ++ [i]) ++ List.range' (i + 1) (k - (i + 1)))).map (.int .i64)), Box w.heap.size 26 #[.int .i64 n, .slice A k cap]]) := by
                unfold Hid; rw [hrest.out]; exact S6.out.tail
              clear S6 hno hyes hlen2 hlen3 hl2 has2 has3
              go_wp2_with fail
              go_roundw
              case rel => exact ⟨i + 1, l, kept ++ [i], B, cc, by omega, hl, by go_num, rfl, hl3, hgo2, ha3, S7⟩
              case measure => simp [intOf]; omega
            · have hgo2 := hyes.out hqq.out
              rw [← hrest.out] at hgo2
              replace hgo2 := Lib.hid hgo2
              have hl3 := hlen2.out
              rw [← hrest.out] at hl3
              replace hl3 := Lib.hid hl3
              have ha3 := has2.out
              rw [← hrest.out] at ha3
              replace ha3 := Lib.hid ha3
              have S7 : Hid (Sp w w6 [Own 3 1 (.slice B5 (l - 1) c5) (l - 1) ((ofN (kept ++ List.range' (i + 1) (k - (i + 1)))).map (.int .i64)), Box w.heap.size 26 #[.int .i64 n, .slice A k cap]]) := by
                unfold Hid; rw [hrest.out]; exact Sp.pick [0, 1] S6.out rfl
              clear S6 hno hyes hlen2 hlen3 hl2 has2 has3
              go_wp2_with fail
              go_roundw
              case rel => exact ⟨i + 1, l - 1, kept, B5, c5, by omega, by omega, by go_num, rfl, hl3, hgo2, ha3, S7⟩
              case measure => simp [intOf]; omega
          · obtain rfl : i = k := by omega
            have hgo2 := hgo.out
            have hkl3 := hkl2.out
            have hS3 := HS.out
            rw [Nat.sub_self, List.range'_zero] at hgo2 hkl3 hS3
            rw [coreGo] at hgo2
            subst hgo2
            rw [List.append_nil] at hkl3 hS3
            have hol : (ofN kept).length = l := by rw [ofN_len]; exact hkl3
            have hown := hS3.own (i := 0) rfl
            have hcap := Lib.hid (own_cap' hown)
            rw [← hol] at hown
            obtain ⟨B', c', e1, hT⟩ := ints_own hown hclen.out
            rw [hol] at e1
            simp only [Value.slice.injEq] at e1
            obtain ⟨rfl, -, rfl⟩ := e1
            have hB := Lib.hid hS3.below
            replace hT := Lib.hid hT
            replace hol := Lib.hid hol
            clear hS3 HS hown hkl3 hkl2 hgo has
            go_wp2_with fail
            go_ret2
            exact ⟨B, cc, by first | (rw [hol.out]; rfl) | rw [hol.out], hT.out, by rw [hol.out]; exact hcap.out, hB.out⟩
end Go.Proofs.Ytmikconjhmhekaa

/- Contracts: lists of indices and the core of a Cnf, in the reference. -/
namespace Go.Proofs.Ytmikconjhmhekaa
open Go.RowKit

theorem ints_src {w : World} {A : Option Addr} {xs : List Int} {n : Nat} (hx : IntsAt w A xs) (hn : xs.length = n) : Src w A n 1 (xs.map (.int .i64)) := by
  rcases Nat.eq_zero_or_pos n with h0 | h0
  · exact .inl ⟨h0, by rw [List.length_eq_zero_iff.1 (hn.trans h0)]; rfl⟩
  · obtain ⟨b, off, rfl, -⟩ := hx.at_ 0 (by omega)
    refine .inr ⟨_, rfl, by simp [hn], fun j u hu => ?_⟩
    rw [List.getElem?_map] at hu
    have hj : j < xs.length := by
      rcases Nat.lt_or_ge j xs.length with h | h
      · exact h
      · rw [List.getElem?_eq_none h] at hu; cases hu
    rw [List.getElem?_eq_getElem hj] at hu
    simp only [Option.map_some, Option.some.injEq] at hu
    rw [add_none, hx.get hj, hu]
theorem ints_one_cell {xs : List Int} : ∀ u ∈ xs.map (Value.int .i64), u.oneCell' = true := fun u hu => by
  obtain ⟨x, -, rfl⟩ := List.mem_map.1 hu
  rfl

set_option maxRecDepth 100000 in
set_option maxHeartbeats 4000000 in
theorem l5Skip_any (A : Option Addr) (n cap k : Nat) (xs : List Int) (w : World) (hx : IntsAt w A xs) (hn : xs.length = n) (hl : n ≤ 1000000) (hk : k < n) (hcap : n ≤ cap) :
    Calls Try.prog 115 #[.slice A n cap, .int .i64 k] w fun e w' => ∃ B c, e = .returned (.slice B (n - 1) c) ∧ Sp w w' [Own 3 1 (.slice B (n - 1) c) (n - 1) ((xs.eraseIdx k).map (.int .i64))] := by
  obtain ⟨i0, hi, hz0, hz1, hz2⟩ := info_parts infoInt
  obtain ⟨b, off, rfl, -⟩ := hx.at_ 0 (by omega)
  have hsr := ints_src hx hn
  have h1 := Lib.hid (hsr.to (k := k) (by omega))
  have h2 := Lib.hid (hsr.from (cap := cap) (k := k + 1) (by omega) hcap)
  have o1 : Hid (∀ u ∈ (xs.map (Value.int .i64)).take (k * 1), u.oneCell' = true) := fun u hu => ints_one_cell u (List.mem_of_mem_take hu)
  have o2 : Hid (∀ u ∈ (xs.map (Value.int .i64)).drop ((k + 1) * 1), u.oneCell' = true) := fun u hu => ints_one_cell u (List.mem_of_mem_drop hu)
  have hres : Hid ((xs.map (Value.int .i64)).take (k * 1) ++ (xs.map (Value.int .i64)).drop ((k + 1) * 1) = (xs.eraseIdx k).map (.int .i64)) := by
    unfold Hid
    rw [Nat.mul_one, Nat.mul_one, List.eraseIdx_eq_take_drop_succ, List.map_append, List.map_take, List.map_drop]
  have hw1 : IntKind.i64.wrap ((k : Int) + 1) = ((k + 1 : Nat) : Int) := by rw [IntWalk.i64_in _ (by omega)]; rfl
  have S0 := Lib.hid ((Sp.start w).drew)
  generalize (xs.map (Value.int .i64)).take (k * 1) = l1 at *
  generalize (xs.map (Value.int .i64)).drop ((k + 1) * 1) = l2 at *
  clear hx hn hsr
  go_enter Try.func115, Try.ntmps115
  go_wp2_with fail
  refine wp_region_held_lit (S := (fun w' => True)) 11 [false, false, false, false, false, false, false, false, false, false, false] (by kernel_rfl) (by kernel_rfl) (by kernel_rfl) ?_ ?_
  · trivial
  intro hSc
  (refine wpAnyH_take (i := 1) (v := ?_) rfl (by kernel_rfl) (by kernel_rfl) (by kernel_rfl) (fun _ _ _ h => h) (Or.inl ⟨by rfl, ?_⟩) (by assumption) ?_; rotate_left; (focus (intro w hSw; (try dsimp only at hSw); go_simp; (try with_reducible rfl); done)); (try simp only [put_rules]))
  (refine wpAnyH_take (i := 2) (v := ?_) rfl (by kernel_rfl) (by kernel_rfl) (by kernel_rfl) (fun _ _ _ h => h) (Or.inl ⟨by rfl, ?_⟩) (by assumption) ?_; rotate_left; (focus (intro w hSw; (try dsimp only at hSw); go_simp; (try with_reducible rfl); done)); (try simp only [put_rules]))
  (refine wpAnyH_take (i := 3) (v := .slice _ k cap) rfl (by kernel_rfl) (by kernel_rfl) (by kernel_rfl) (fun _ _ _ h => h) (Or.inl ⟨by rfl, fun _ _ => exec_slice_to rfl rfl rfl Try.underlying30 hi (by omega)⟩) (by assumption) ?_; (try simp only [put_rules]))
  (refine wpAnyH_take (i := 5) (v := ?_) rfl (by kernel_rfl) (by kernel_rfl) (by kernel_rfl) (fun _ _ _ h => h) (Or.inl ⟨by rfl, ?_⟩) (by assumption) ?_; rotate_left; (focus (intro w hSw; (try dsimp only at hSw); go_simp; (try with_reducible rfl); done)); (try simp only [put_rules]))
  (refine wpAnyH_take (i := 6) (v := ?_) rfl (by kernel_rfl) (by kernel_rfl) (by kernel_rfl) (fun _ _ _ h => h) (Or.inl ⟨by rfl, ?_⟩) (by assumption) ?_; rotate_left; (focus (intro w hSw; (try dsimp only at hSw); go_simp; (try with_reducible rfl); done)); (try simp only [put_rules]))
  (refine wpAnyH_take (i := 7) (v := ?_) rfl (by kernel_rfl) (by kernel_rfl) (by kernel_rfl) (fun _ _ _ h => h) (Or.inl ⟨by rfl, ?_⟩) (by assumption) ?_; rotate_left; (focus (intro w hSw; (try dsimp only at hSw); go_simp; (try with_reducible rfl); done)); (try simp only [put_rules]))
  (refine wpAnyH_take (i := 8) (v := .slice (cutA _ cap (k + 1) 1) (n - (k + 1)) (cap - (k + 1))) rfl (by kernel_rfl) (by kernel_rfl) (by kernel_rfl) (fun _ _ _ h => h) (Or.inl ⟨by rfl, fun _ _ => exec_slice_from rfl rfl rfl Try.underlying30 hi hz1 (by omega)⟩) (by assumption) ?_; (try simp only [put_rules]))
  (refine wpAnyH_ready (rs := [0]) (by kernel_rfl) (by simp) ?_; refine AllReadyH.cons rfl (fun K hK => ?_) AllReadyH.nil)
  go_simp
  have S1 := S0.out.own_made 3 1
  replace S1 := Lib.hid S1
  clear S0
  refine hK.out _ _ trivial (fun hS1 => ?_)
  clear hK
  (try simp only [put_rules])
  (refine wpAnyH_ready (rs := [4]) (by kernel_rfl) (by simp) ?_; refine AllReadyH.cons rfl (fun K hK => ?_) AllReadyH.nil)
  (refine step_append_src rfl _ _ rfl Try.underlying30 hi hz0 hz1 hz2 rfl (by decide) _ 0 _ rfl (S1.out.own (i := 0) rfl) _ k cap l1 rfl (h1.out.grow S1.out.below) o1.out (by unfold maxLen; omega) (by omega) ?_; intro vA wA hownA hgA hatA)
  have S2 := S1.out.own_push (i := 0) rfl (bb _) hownA hgA hatA
  obtain ⟨aA, cA, rfl⟩ := owns_form hownA
  rw [Nat.zero_add, List.nil_append] at S2
  clear hownA hgA hatA
  simp only [Nat.zero_add]
  replace S2 := Lib.hid S2
  clear S1
  refine hK.out _ _ trivial (fun hS2 => ?_)
  clear hK
  (try simp only [put_rules])
  (refine wpAnyH_ready (rs := [9]) (by kernel_rfl) (by simp) ?_; refine AllReadyH.cons rfl (fun K hK => ?_) AllReadyH.nil)
  (refine step_append_src rfl _ _ rfl Try.underlying30 hi hz0 hz1 hz2 rfl (by decide) _ k _ rfl (S2.out.own (i := 0) rfl) _ (n - (k + 1)) (cap - (k + 1)) l2 rfl (h2.out.grow S2.out.below) o2.out (by unfold maxLen; omega) (by omega) ?_; intro vB wB hownB hgB hatB)
  have S3 := S2.out.own_push (i := 0) rfl (bb _) hownB hgB hatB
  obtain ⟨aB, cB, rfl⟩ := owns_form hownB
  rw [hres.out] at S3
  have hlen : k + (n - (k + 1)) = n - 1 := by omega
  rw [hlen] at S3
  rw [hlen]
  clear hownB hgB hatB hlen
  replace S3 := Lib.hid S3
  clear S2
  refine hK.out _ _ trivial (fun hS3 => ?_)
  clear hK
  (try simp only [put_rules])
  (refine wpAnyH_take (i := 10) (v := ?_) rfl (by kernel_rfl) (by kernel_rfl) (by kernel_rfl) (fun _ _ _ h => h) (Or.inl ⟨by rfl, ?_⟩) (by assumption) ?_; rotate_left; (focus (intro w hSw; (try dsimp only at hSw); go_simp; (try with_reducible rfl); done)); (try simp only [put_rules]))
  (refine wpAnyH_done (by kernel_rfl) ?_ _)
  go_wp2_with fail
  go_ret
  exact ⟨aB, cB, rfl, S3.out⟩

set_option maxRecDepth 100000 in
set_option maxHeartbeats 4000000 in
theorem l5Indices_any (vars : Int) (A : Option Addr) (n cap : Nat) (hn : n ≤ 1000) (w : World) :
    Calls Try.prog 114 #[.agg #[.int .i64 vars, .slice A n cap]] w fun e w' => ∃ B c, e = .returned (.slice B n c) ∧ Sp w w' [Own 3 1 (.slice B n c) n ((ofN (List.range n)).map (.int .i64))] := by
  have S0 := ((Sp.start w).alloc_box #[.int .i64 vars, .slice A n cap] 26).own_made 3 1
  simp only [World.size_alloc] at S0
  replace S0 := Lib.hid S0
  obtain ⟨i0, hi, hz0, hz1, hz2⟩ := info_parts infoInt
  go_enter Try.func114, Try.ntmps114
  go_wp2_with fail
  go_loopw [3, 4] (fun vo vi wr => ∃ (k : Nat) (B : Option Addr) (cc : Nat), k ≤ n ∧ vi = .int .i64 k ∧ vo = .slice B k cc ∧ Hid (Sp w wr [Own 3 1 (.slice B k cc) k ((ofN (List.range k)).map (.int .i64)), Box w.heap.size 26 #[.int .i64 vars, .slice A n cap]])) (fun _ vi _ => n - (intOf vi).toNat)
  case atStart => exact ⟨0, _, _, Nat.zero_le _, rfl, rfl, S0⟩
  case round =>
    obtain ⟨k, B, cc, hk, rfl, rfl, HS⟩ := hrel
    clear S0
    have c1 := HS.out.cell (i := 1) rfl (o := 1) rfl
    by_cases hlt : k < n
    · have hsn : Hid ((ofN (List.range (k + 1))).map (Value.int .i64) = (ofN (List.range k)).map (Value.int .i64) ++ [.int .i64 (k : Int)]) := by
        unfold Hid ofN; rw [List.range_succ, List.map_append, List.map_append]; rfl
      have S2 := HS.out.alloc_box #[.int .i64 (k : Int)] 3
      have kB := S2.cell (i := 0) rfl (o := 0) rfl
      replace S2 := Lib.hid S2
      clear HS
      go_wp2_with (at_builtin; refine wpList_append_src rfl _ _ rfl Try.underlying30 hi hz0 hz1 hz2 rfl (by decide) _ _ _ rfl (S2.out.own (i := 1) rfl) _ 1 1 [.int .i64 (k : Int)] rfl (Src.one kB) (by simp [Value.oneCell']) ?c3 ?c4 ?_)
      case c3 => unfold maxLen; omega
      case c4 => omega
      intro vY wY hownY hgY hatY
      have S4 := (S2.out.own_push (i := 1) rfl (bb _) hownY hgY (by simpa using hatY)).tail
      obtain ⟨aY, cY, rfl⟩ := own_slice hownY
      have HS3 : Hid (Sp w wY [Own 3 1 (.slice aY (k + 1) cY) (k + 1) ((ofN (List.range (k + 1))).map (.int .i64)), Box w.heap.size 26 #[.int .i64 vars, .slice A n cap]]) := by
        unfold Hid; rw [hsn.out]; exact S4
      clear S2 S4 kB hownY hgY hatY hsn c1
      go_wp2_with fail
      go_roundw
      case rel => exact ⟨k + 1, aY, cY, by omega, by go_num, rfl, HS3⟩
      case measure => simp [intOf]; omega
    · obtain rfl : k = n := by omega
      have S4 := Lib.hid (Sp.pick [0] HS.out rfl)
      clear HS
      go_wp2_with fail
      go_ret
      exact ⟨B, cc, rfl, S4.out⟩
end Go.Proofs.Ytmikconjhmhekaa

/- Contracts: Cnfs compared in the laws; rows and lists of rows copied, on both sides. -/
namespace Go.Proofs.Ytmikconjhmhekaa
open Go.RowKit

set_option maxRecDepth 100000 in
set_option maxHeartbeats 4000000 in
theorem vTable_same (A A' : Option Addr) (c c' : Nat) (xss : List (List Int)) (w : World) (hx : ClsAt w A xss) (hy : ClsAt w A' xss) (hl : xss.length ≤ 1000000) (hs : ∀ c ∈ xss, c.length ≤ 1000000) :
    Calls Try.prog 162 #[.slice A xss.length c, .slice A' xss.length c'] w fun e w' => e = .returned (.bool true) ∧ Below w.heap.size w w' := by
  have hN := Lib.hid hx
  have hM := Lib.hid hy
  have hS := Lib.hid hs
  clear hx hy hs
  go_enter Try.func162, Try.ntmps162
  go_wp2_with fail
  go_loopw [5] (fun i wr => ∃ k : Nat, k ≤ xss.length ∧ i = .int .i64 k ∧ Hid (Below w.heap.size w wr)) (fun i _ => xss.length - (intOf i).toNat)
  case atStart => exact ⟨0, Nat.zero_le _, rfl, bb _⟩
  case round =>
    obtain ⟨k, hk, rfl, HS⟩ := hrel
    by_cases hlt : k < xss.length
    · obtain ⟨b, off, D, dc, rfl, m0, hI⟩ := (hN.out.grow HS.out).at_ k hlt
      obtain ⟨b', off', E, ec, rfl, p0, hJ⟩ := (hM.out.grow HS.out).at_ k hlt
      have hcall := Lib.hid (fun W (h : Below wr.heap.size wr W) => vInts_same D E dc ec xss[k] W (hI.grow h) (hJ.grow h) (hS.out _ (List.getElem_mem hlt)))
      have k0 := cell_regrown m0
      have q0 := cell_regrown p0
      generalize xss[k] = v at *
      clear m0 p0 hI hJ
      go_wp2_with fail
      refine wp_region_quiet_below (by kernel_rfl) (by kernel_rfl) ?_
      repeat (any_goals (first | go_big_quiet_step ((go_at_call 52; exact Calls.regrown_of (hcall.out _ (below_regrown _ _ _))))))
      refine wpQuiet_nil ?_
      rintro w3 ⟨p, rfl⟩
      have HS4 := Lib.hid (btr HS.out (below_regrown _ p.d p.os))
      clear HS k0 q0 hcall
      go_wp2_with fail
      go_roundw
      case rel => exact ⟨k + 1, by omega, by go_num, HS4⟩
      case measure => simp [intOf]; omega
    · obtain rfl : k = xss.length := by omega
      have hB := HS.out
      go_wp2_with fail
      go_ret
      exact ⟨rfl, hB⟩

set_option maxHeartbeats 2000000 in
theorem vCnf_same (vars : Int) (A A' : Option Addr) (c c' : Nat) (xss : List (List Int)) (w : World) (hx : ClsAt w A xss) (hy : ClsAt w A' xss) (hl : xss.length ≤ 1000000) (hs : ∀ c ∈ xss, c.length ≤ 1000000) :
    Calls Try.prog 65 #[.agg #[.int .i64 vars, .slice A xss.length c], .agg #[.int .i64 vars, .slice A' xss.length c']] w fun e w' => e = .returned (.bool true) ∧ Below w.heap.size w w' := by
  have S0 := ((Sp.start w).alloc_box #[.int .i64 vars, .slice A xss.length c] 26).alloc_box #[.int .i64 vars, .slice A' xss.length c'] 26
  simp only [World.size_alloc] at S0
  have hcall := Lib.hid (vTable_same A A' c c' xss _ (hx.grow S0.below) (hy.grow S0.below) hl hs)
  have a0 := S0.cell (i := 1) rfl (o := 0) rfl
  have a1 := S0.cell (i := 1) rfl (o := 1) rfl
  have b0 := S0.cell (i := 0) rfl (o := 0) rfl
  have b1 := S0.cell (i := 0) rfl (o := 1) rfl
  replace S0 := Lib.hid S0
  generalize xss.length = m at *
  have hv : (vars == vars) = true := by simp
  clear hx hy hs
  go_enter Try.func65, Try.ntmps65
  go_wp2_with fail
  refine hcall.out.mono ?_
  rintro e w1 ⟨rfl, hb1⟩
  have hB := Lib.hid (S0.out.grow hb1).below
  clear S0 hcall hb1 a0 a1 b0 b1
  go_wp2_with fail
  go_ret
  exact ⟨rfl, hB.out⟩

/-- A copy of a row of numbers. -/
theorem cloneA_any (A : Option Addr) (cap : Nat) (xs : List Int) (w : World) (hx : IntsAt w A xs) (hl : xs.length ≤ 1000000) :
    Calls Try.prog 205 #[.slice A xs.length cap] w (OneI w xs) := by
  rcases Nat.eq_zero_or_pos xs.length with h0 | h0
  · obtain rfl : xs = [] := List.length_eq_zero_iff.1 h0
    cases A with
    | none =>
      refine (Try.slices_Clone_int_nil 0 cap w).mono ?_
      rintro e w' ⟨rfl, rfl⟩
      exact ⟨none, 0, rfl, (Sp.start _).own_nil _ _⟩
    | some a =>
      refine (Try.slices_Clone_int_zero a cap w).mono ?_
      rintro e w' ⟨v, rfl, ho, -, hb⟩
      have S := (Sp.start w).own_new hb (owns_zero ho) (owns_ge ho)
      obtain ⟨B, c, rfl⟩ := own_slice ho
      exact ⟨B, c, rfl, S⟩
  · obtain ⟨b, off, rfl, -⟩ := hx.at_ 0 h0
    have h := Try.slices_Clone_int b off xs.length cap xs w (Nat.le_refl _) (by omega) fun j hj => by
      obtain ⟨b', off', e, h1⟩ := hx.at_ j hj
      cases e
      rw [h1, List.getD_eq_getElem?_getD, List.getElem?_eq_getElem hj]; rfl
    refine h.mono ?_
    rintro e w' ⟨v, rfl, ho, -, hb⟩
    rw [List.take_length] at ho
    have S := (Sp.start w).own_new hb (owns_zero ho) (owns_ge ho)
    obtain ⟨B, c, rfl⟩ := own_slice ho
    exact ⟨B, c, rfl, S⟩

set_option maxHeartbeats 1000000 in
theorem l1OwnI_any (A : Option Addr) (cap : Nat) (xs : List Int) (w : World) (hx : IntsAt w A xs) (hl : xs.length ≤ 1000000) :
    Calls Try.prog 234 #[.slice A xs.length cap] w (OneI w xs) := by
  obtain ⟨i0, hi, hz0, hz1, hz2⟩ := info_parts infoInt
  have S0 := (Sp.start w).own_made 3 1
  have hsrc := ints_src (hx.grow S0.below) rfl
  replace S0 := Lib.hid S0
  replace hsrc := Lib.hid hsrc
  clear hx
  go_enter Try.func234, Try.ntmps234
  go_wp2_with (at_builtin; refine wpList_append_src rfl _ _ rfl Try.underlying30 hi hz0 hz1 hz2 rfl (by decide) _ _ _ rfl (S0.out.own (i := 0) rfl) A xs.length cap _ rfl hsrc.out (ints_one xs) ?c3 ?c4 ?_)
  case c3 => unfold maxLen; omega
  case c4 => omega
  intro v' w1 hown hg hat
  have S1 := S0.out.own_push (i := 0) rfl (bb _) hown hg (by simpa using hat)
  obtain ⟨a, c', rfl⟩ := own_slice hown
  replace S1 := Lib.hid S1
  clear hown hg hat S0
  go_wp2_with fail
  go_ret
  exact ⟨a, c', rfl, S1.out⟩
end Go.Proofs.Ytmikconjhmhekaa

/- Contracts: lists of rows copied, on both sides. -/
namespace Go.Proofs.Ytmikconjhmhekaa
open Go.RowKit Go.Shelf

/-- Rows of the call's own. -/
def RowsP (w : World) (xss : List (List Int)) (e : Ending) (w' : World) : Prop := ∃ B cap cs, e = .returned (.slice B xss.length cap) ∧ Sp w w' [Rows Ty.int 30 (.slice B xss.length cap) cs xss]
theorem take_snoc {α : Type} {l : List α} {k : Nat} (h : k < l.length) : l.take k ++ [l[k]] = l.take (k + 1) := (List.take_succ_eq_append_getElem h).symm

set_option maxRecDepth 100000 in
set_option maxHeartbeats 4000000 in
theorem cloneLists_any (cls : List (List Int)) (A : Option Addr) (cap : Nat) (w : World) (hx : ClsAt w A cls) (hl : cls.length ≤ 1000) (hs : ∀ c ∈ cls, c.length ≤ 1000000) :
    Calls Try.prog 159 #[.slice A cls.length cap] w (RowsP w cls) := by
  obtain ⟨i1, hi, hz0, hz1, hz2⟩ := info_parts infoRow
  have S0 := Lib.hid ((Sp.start w).rows_nil Ty.int 30)
  have hX := Lib.hid hx
  have hS := Lib.hid hs
  clear hx hs
  go_enter Try.func159, Try.ntmps159
  go_wp2_with fail
  go_loopw [3, 5, 8] (fun v3 _ v8 wr => ∃ (k : Nat) (B : Option Addr) (cc : Nat) (cs : List Value) (ys : List (List Int)), k ≤ cls.length ∧ v8 = .int .i64 k ∧ v3 = .slice B ys.length cc ∧ ys.length = k ∧ Hid (ys = cls.take k) ∧ Hid (Sp w wr [Rows Ty.int 30 (.slice B ys.length cc) cs ys])) (fun _ _ v8 _ => cls.length - (intOf v8).toNat)
  case atStart => exact ⟨0, none, 0, [], [], Nat.zero_le _, rfl, rfl, rfl, rfl, S0⟩
  case round =>
    clear S0
    obtain ⟨k, B, cc, cs, ys, hk, rfl, rfl, hyk, hys, HS⟩ := hrel
    by_cases hlt : k < cls.length
    · obtain ⟨ab, aoff, D, dc, rfl, m0, hI⟩ := hX.out.at_ k hlt
      have n0 := cell_below m0 HS.out.below
      have hcl := Lib.hid (cloneA_any D dc cls[k] _ (hI.grow HS.out.below) (hS.out _ (List.getElem_mem hlt)))
      have hok := Lib.hid hI.ok
      have hnx : Hid (ys ++ [cls[k]] = cls.take (k + 1)) := by unfold Hid; rw [hys.out, take_snoc hlt]
      generalize cls[k] = c at *
      clear m0 hI hys
      replace hyk := Lib.hid hyk
      go_wp2_with fail
      refine hcl.out.mono ?_
      rintro e w2 ⟨E, ec, rfl, T⟩
      have S3 := Sp.own_to_row (HS.out.seq T) hok.out
      have hrows := Lib.hid ((S3.rows (i := 1) rfl).alloc (.cells #[.slice E c.length ec] 30))
      have kB : (w2.alloc (.cells #[.slice E c.length ec] 30)).cell? ⟨w2.heap.size, 0, none⟩ = some (.slice E c.length ec) := cell_of_row _ _ _ _ _ _ (heap_alloc_new w2 _)
      have S4 := Lib.hid (S3.alloc (.cells #[.slice E c.length ec] 30))
      have hyl : ys.length ≤ 1000 := by have := hyk.out; omega
      clear HS T S3 n0 hcl
      go_wp2_with (at_builtin; refine wpList_append_src rfl _ _ rfl Try.underlying24 hi hz0 hz1 hz2 rfl (by decide) _ ys.length _ rfl hrows.out _ 1 1 [.slice E c.length ec] rfl (Src.one kB) (by simp [Value.oneCell']) ?c3 ?c4 ?_)
      case c3 => unfold maxLen; omega
      case c4 => omega
      intro vY wY hownY hgY hatY
      have S5 := S4.out.rows_push (bb _) hownY hgY (by simpa using hatY)
      obtain ⟨aY, cY, rfl⟩ := own_slice hownY
      have hlen : ys.length + 1 = (ys ++ [c]).length := by simp
      rw [hlen] at S5 ⊢
      have hyk2 : (ys ++ [c]).length = k + 1 := by rw [← hlen, hyk.out]
      clear S4 hrows kB hownY hgY hatY hlen hyk hyl
      replace S5 := Lib.hid S5
      replace hyk2 := Lib.hid hyk2
      generalize ys ++ [c] = ys2 at *
      go_wp2_with fail
      go_roundw
      case rel => exact ⟨k + 1, aY, cY, cs ++ [.slice E c.length ec], ys2, by omega, by go_num, rfl, hyk2.out, hnx, S5⟩
      case measure => simp [intOf]; omega
    · obtain rfl : k = cls.length := by omega
      have hy2 : ys = cls := by have := hys.out; rwa [List.take_length] at this
      subst hy2
      clear hys hyk
      go_wp2_with fail
      go_ret
      exact ⟨B, cc, cs, rfl, HS.out⟩
end Go.Proofs.Ytmikconjhmhekaa

/- Contracts: two lists of rows put together, in the library. -/
namespace Go.Proofs.Ytmikconjhmhekaa
open Go.RowKit Go.Shelf

def growRenL : Go.Shelf.Ren := ⟨fun | 4 => 233 | n => n, fun | 22 => 24 | 25 => 30 | n => n, fun | n => n⟩
theorem growLayL : Lays8.n4 Try.prog growRenL := {
  mixed := by kernel_rfl
  f4 := ⟨Try.f233.name, by kernel_rfl, Try.func233.trans (congrArg some (by kernel_rfl))⟩
  t0 := Try.underlying0
  a0 := Try.isAgg0
  z0 := Try.sizeOf0
  v0 := Try.zeroValue0
  t3 := Try.underlying3
  a3 := Try.isAgg3
  z3 := Try.sizeOf3
  v3 := Try.zeroValue3
  t4 := Try.underlying4
  a4 := Try.isAgg4
  z4 := Try.sizeOf4
  v4 := Try.zeroValue4
  t9 := Try.underlying9
  a9 := Try.isAgg9
  z9 := Try.sizeOf9
  v9 := Try.zeroValue9
  t20 := Try.underlying20
  a20 := Try.isAgg20
  z20 := Try.sizeOf20
  v20 := Try.zeroValue20
  t22 := Try.underlying24
  a22 := Try.isAgg24
  z22 := Try.sizeOf24
  v22 := Try.zeroValue24 }

theorem growL_any (n : Nat) (hn : n ≤ 1000000) (w : World) : Calls Try.prog 233 #[.slice none 0 0, .int .i64 n] w fun e w' => ∃ B cc, e = .returned (.slice B 0 cc) ∧ Sp w w' [Own 30 1 (.slice B 0 cc) 0 []] := by
  obtain ⟨i1, hi, hz0, hz1, hz2⟩ := info_parts infoRow
  rcases Nat.eq_zero_or_pos n with rfl | h0
  · refine (Any8.slices_Grow_room growLayL none 0 0 0 w (by decide) (by decide) (by decide) (by decide)).mono ?_
    rintro e w' ⟨rfl, rfl⟩
    exact ⟨none, 0, rfl, (Sp.start _).own_nil _ _⟩
  · have h := Any8.slices_Grow_grow growLayL i1 _ hi hz0 (by omega) none 0 0 n [] w (by decide) (by omega) (by rw [hz2]; omega) (by omega) (by simp) (fun _ => rfl) (fun a e => by cases e)
    refine h.mono ?_
    rintro e w' ⟨rfl, rfl⟩
    have hb : Below w.heap.size w w.drew := bdr (bb w)
    have S := (Sp.of_below hb)
    refine ⟨_, _, rfl, S.own_new (bal (bb _) _) (World.ownsRow_made w.drew _ _ (Nat.zero_le _) (grownCap_le_maxLen w _ _ _ (by unfold maxLen; omega)) ?_) fun g hg => ?_⟩
    · have := grownCap_ge w (0 + n) 0 (growRenL.t 25)
      generalize grownCap w (0 + n) 0 (growRenL.t 25) = q at *
      simp only [Array.size_append, size_zeroCells, List.size_toArray, List.length_nil, Value.cells, List.length_cons]
      omega
    · have : g = w.heap.size := by simpa [Value.ownBlock] using hg.symm
      subst this
      exact Nat.le_refl _

def szK (n1 n2 : Nat) : Nat → Nat
  | 0 => 0
  | 1 => n1
  | _ => n1 + n2
def catK (us1 us2 : List Value) : Nat → List Value
  | 0 => []
  | 1 => us1
  | _ => us1 ++ us2

set_option maxRecDepth 100000 in
set_option maxHeartbeats 4000000 in
theorem concatL_any (b : Nat) (A1 A2 : Option Addr) (n1 n2 c1 c2 : Nat) (us1 us2 : List Value) (w : World) (h0 : w.cell? ⟨b, 0, none⟩ = some (.slice A1 n1 c1)) (h1 : w.cell? ⟨b, 1, none⟩ = some (.slice A2 n2 c2)) (hs1 : Src w A1 n1 1 us1) (hs2 : Src w A2 n2 1 us2)
    (o1 : ∀ u ∈ us1, u.oneCell' = true) (o2 : ∀ u ∈ us2, u.oneCell' = true) (l1 : n1 ≤ 1000) (l2 : n2 ≤ 1000) :
    Calls Try.prog 160 #[.slice (some ⟨b, 0, none⟩) 2 2] w fun e w' => ∃ B cc, e = .returned (.slice B (n1 + n2) cc) ∧ Sp w w' [Own 30 1 (.slice B (n1 + n2) cc) (n1 + n2) (us1 ++ us2)] := by
  obtain ⟨i1, hi, hz0, hz1, hz2⟩ := info_parts infoRow
  have key : Hid (∀ k, k < 2 → ∃ A n c us, w.cell? ⟨b, k, none⟩ = some (.slice A n c) ∧ Src w A n 1 us ∧ (∀ u ∈ us, u.oneCell' = true) ∧ n ≤ 1000 ∧ szK n1 n2 (k + 1) = szK n1 n2 k + n ∧ catK us1 us2 (k + 1) = catK us1 us2 k ++ us) := fun k hk => by
    rcases k with _ | _ | k
    · exact ⟨A1, n1, c1, us1, h0, hs1, o1, l1, by simp [szK], by simp [catK]⟩
    · exact ⟨A2, n2, c2, us2, h1, hs2, o2, l2, rfl, rfl⟩
    · omega
  have hle : ∀ k, szK n1 n2 k ≤ 2000 := fun k => by
    rcases k with _ | _ | k <;> simp only [szK] <;> omega
  have hS0 : Hid (szK n1 n2 0 = 0) := rfl
  have hC0 : Hid (catK us1 us2 0 = []) := rfl
  have hS2 : Hid (szK n1 n2 2 = n1 + n2) := rfl
  have hC2 : Hid (catK us1 us2 2 = us1 ++ us2) := rfl
  replace hle := Lib.hid hle
  generalize szK n1 n2 = sz at *
  generalize catK us1 us2 = ct at *
  obtain ⟨m, hm⟩ : ∃ m, n1 + n2 = m := ⟨_, rfl⟩
  rw [hm] at hS2 ⊢
  clear hm h0 h1 hs1 hs2 o1 o2 l1 l2
  go_enter Try.func160, Try.ntmps160
  go_wp2_with fail
  go_loopw [3, 5, 11] (fun v3 _ v11 wr => ∃ (k z : Nat), k ≤ 2 ∧ v11 = .int .i64 k ∧ v3 = .int .i64 z ∧ z ≤ 2000 ∧ Hid (sz k = z) ∧ Hid (Below w.heap.size w wr)) (fun _ _ v11 _ => 2 - (intOf v11).toNat)
  case atStart => exact ⟨0, 0, by omega, rfl, rfl, by omega, hS0, bb _⟩
  case round =>
    obtain ⟨k, z, hk, rfl, rfl, hz, hsz, HB⟩ := hrel
    by_cases hlt : k < 2
    · obtain ⟨Ak, nk, ck, us, hc, -, -, hnk, hsn, -⟩ := key.out k hlt
      have hc2 := cell_below hc HB.out
      have hzn : Hid (sz (k + 1) = z + nk) := by unfold Hid; rw [hsn, hsz.out]
      have hyb : z + nk ≤ 2000 := by have := hle.out (k + 1); rw [hzn.out] at this; exact this
      have hwr : IntKind.i64.wrap ((z : Int) + nk) = ((z + nk : Nat) : Int) := by rw [IntWalk.i64_in _ (by omega)]; omega
      obtain ⟨y, hy⟩ : ∃ y, z + nk = y := ⟨_, rfl⟩
      rw [hy] at hwr hyb hzn
      have hneg : decide ((y : Int) < 0) = false := decide_eq_false (by omega)
      replace hy := Lib.hid hy
      clear hc hsn
      have hwr2 := hwr
      go_wp2_with fail
      go_roundw
      case rel => exact ⟨k + 1, y, by omega, by go_num, rfl, hyb, hzn, HB⟩
      case measure => simp [intOf]; omega
    · obtain rfl : k = 2 := by omega
      obtain rfl : z = m := by rw [← hsz.out]; exact hS2.out
      have hgr := Lib.hid (growL_any z (by omega) wr)
      have S0 := Lib.hid (Sp.of_below HB.out)
      clear HB hsz
      go_wp2_with fail
      refine hgr.out.mono ?_
      rintro e w2 ⟨B, cc, rfl, T⟩
      have S1 : Hid (Sp w w2 [Own 30 1 (.slice B 0 cc) 0 []]) := S0.out.seq T
      clear hgr S0 T
      go_wp2_with fail
      go_loopw [6, 8, 27] (fun v6 _ v27 wr => ∃ (k y : Nat) (B : Option Addr) (cc : Nat) (us : List Value), k ≤ 2 ∧ v27 = .int .i64 k ∧ v6 = .slice B y cc ∧ y ≤ 2000 ∧ Hid (sz k = y) ∧ Hid (ct k = us) ∧ Hid (Sp w wr [Own 30 1 (.slice B y cc) y us])) (fun _ _ v27 _ => 2 - (intOf v27).toNat)
      case atStart => exact ⟨0, 0, B, cc, [], by omega, rfl, rfl, by omega, hS0, hC0, S1⟩
      case round =>
        clear S1
        obtain ⟨k, y, B, cc, us, hk, rfl, rfl, hyl, hsy, hcy, HS⟩ := hrel
        by_cases hlt : k < 2
        · obtain ⟨Ak, nk, ck, vs, hc, hsr, ho, hnk, hsn, hcn⟩ := key.out k hlt
          have hc2 := cell_below hc HS.out.below
          have hsr2 := Lib.hid (hsr.grow HS.out.below)
          have hoH := Lib.hid ho
          have hzn : Hid (sz (k + 1) = y + nk) := by unfold Hid; rw [hsn, hsy.out]
          have hyb : y + nk ≤ 2000 := by have := hle.out (k + 1); rw [hzn.out] at this; exact this
          have hcn2 : Hid (ct (k + 1) = us ++ vs) := by unfold Hid; rw [hcn, hcy.out]
          clear hc hsr ho hsn hcn
          go_wp2_with (at_builtin; refine wpList_append_src rfl _ _ rfl Try.underlying24 hi hz0 hz1 hz2 rfl (by decide) _ _ _ rfl (HS.out.own (i := 0) rfl) Ak nk ck vs rfl hsr2.out hoH.out ?c3 ?c4 ?_)
          case c3 => unfold maxLen; omega
          case c4 => omega
          intro vY wY hownY hgY hatY
          have S5 := Lib.hid (HS.out.own_push (i := 0) rfl (bb _) hownY hgY (by simpa using hatY))
          obtain ⟨aY, cY, rfl⟩ := own_slice hownY
          clear HS hownY hgY hatY hsr2 hoH
          obtain ⟨q, hq⟩ : ∃ q, y + nk = q := ⟨_, rfl⟩
          rw [hq] at S5 hzn hyb ⊢
          clear hq
          go_wp2_with fail
          go_roundw
          case rel => exact ⟨k + 1, q, aY, cY, us ++ vs, by omega, by go_num, rfl, hyb, hzn, hcn2, S5⟩
          case measure => simp [intOf]; omega
        · obtain rfl : k = 2 := by omega
          obtain rfl : y = z := by rw [← hsy.out]; exact hS2.out
          have S5 := HS.out
          rw [← hcy.out, hC2.out] at S5
          replace S5 := Lib.hid S5
          clear HS
          go_wp2_with fail
          go_ret
          exact ⟨B, cc, rfl, S5.out⟩
end Go.Proofs.Ytmikconjhmhekaa

/- Contracts: clauses joined and resolved in the reference, told weakly. -/
namespace Go.Proofs.Ytmikconjhmhekaa
open Go.RowKit

/-- A row of its own within bounds, and a flag. -/
def JoinW (n : Nat) (w : World) (e : Ending) (w' : World) : Prop :=
  ∃ v c q, e = .returned (.tuple #[v, .bool q]) ∧ w'.ownsRow w.heap.size 3 1 v c.length (c.map (.int .i64)) ∧ c.length ≤ n ∧ Within 1000 c ∧ Below w.heap.size w w'
theorem Sp.drop2w {w0 w : World} {p q : Asn} {ps : List Asn} (h : Sp w0 w (p :: q :: ps)) : Sp w0 w (p :: ps) := h.swap.tail

set_option maxRecDepth 100000 in
set_option maxHeartbeats 4000000 in
theorem l2JoinW_any (v u : Value) (a b : List Int) (F G : List Nat) (w : World) (hx : Ty.int.row false w v a F) (hy : Ty.int.row false w u b G) (wa : Within 1000 a) (wb : Within 1000 b) (la : a.length ≤ 1000) (lb : b.length ≤ 1000) :
    Calls Try.prog 176 #[v, u] w (JoinW (a.length + b.length) w) := by
  obtain ⟨aa, ac, rfl, _, _⟩ := Ty.row_len hx
  obtain ⟨ba, bc, rfl, hy1, hy2, _, hy3⟩ := row_int hy
  go_enter Try.func176, Try.ntmps176
  go_wp2_with fail
  refine (l1Own_any _ a F w hx (by omega)).mono ?_
  rintro e w1 ⟨v1, rfl, ho1, hb1⟩
  have S0 := (Sp.start w).own_call hb1 ho1
  obtain ⟨a1, c1, rfl⟩ := owns_form ho1
  replace S0 := Lib.hid S0
  have hW0 := Lib.hid wa
  clear ho1 hb1
  go_wp2_with fail
  go_loopw [6, 7] (fun s i wr => ∃ (k : Nat) (out : List Int), k ≤ b.length ∧ i = .int .i64 k ∧ out.length ≤ a.length + k ∧ Hid (Within 1000 out) ∧ Hid (Sp w wr [Own 3 1 s out.length (out.map (.int .i64))])) (fun _ i _ => b.length - (intOf i).toNat)
  case atStart => exact ⟨0, a, Nat.zero_le _, rfl, by omega, hW0, S0⟩
  case round =>
    obtain ⟨k, out, hk, rfl, hol, HW, HS⟩ := hrel
    clear S0
    obtain ⟨sa, sc, rfl⟩ := owns_form (HS.out.own (i := 0) rfl)
    by_cases hlt : k < b.length
    · rcases hy3 with ⟨rfl, rfl⟩ | ⟨hyn, bk, off, rfl, rfl, hyc⟩
      · exact absurd hlt (by simp)
      have hB := HS.out.below
      have k0 := ((hyc k hlt).keep (hB.block bk (hyc k hlt).lt)).1
      have hl6 := wb _ (List.getElem_mem hlt)
      obtain ⟨H, hrow', -, -⟩ := own_row (HS.out.own (i := 0) rfl) (HW.out.i64 (by decide))
      have hrow := Ty.row_down hrow'
      obtain ⟨l, hl⟩ : ∃ l, l = b[k] := ⟨_, rfl⟩
      rw [← hl] at k0 hl6
      have hneg : wrap64 (-l) = -l := by unfold wrap64; omega
      have hl0 : -1000 ≤ l := hl6.1
      have hl1 : l ≤ 1000 := hl6.2
      replace hl := Lib.hid hl
      clear hyc hB hl hl6 hrow'
      cases hq : hasI out (-l)
      · cases hq2 : hasI out l
        · have HN := Lib.hid (within_put HW.out ⟨hl0, hl1⟩)
          have hpl := Lib.hid (put_len out l)
          have hol9 : out.length ≤ 1000000000 := by omega
          go_wp2_with (first
            | (go_at_call 101; (first | (with_reducible refine (l2Has_at hrow hq).mono ?_) | (with_reducible refine (l2Has_at hrow hq2).mono ?_)); rintro e w2 ⟨rfl, rfl⟩)
            | (go_at_call 203; (with_reducible refine (l2Put_any _ out l H _ hrow hol9).mono ?_); rintro e w2 ⟨v2, rfl, ho2, hb2⟩))
          have S1 := (HS.out.own_call hb2 ho2).drop2w
          obtain ⟨a2, c2, rfl⟩ := owns_form ho2
          replace S1 := Lib.hid S1
          clear ho2 hb2 HS hrow
          generalize putB out l = out2 at *
          go_wp2_with fail
          go_roundw
          case rel => exact ⟨k + 1, out2, by omega, by go_num, by rw [hpl.out]; omega, HN, S1⟩
          case measure => simp [intOf]; omega
        · go_wp2_with (first
            | (go_at_call 101; (first | (with_reducible refine (l2Has_at hrow hq).mono ?_) | (with_reducible refine (l2Has_at hrow hq2).mono ?_)); rintro e w2 ⟨rfl, rfl⟩))
          go_roundw
          case rel => exact ⟨k + 1, out, by omega, by go_num, by omega, HW, HS⟩
          case measure => simp [intOf]; omega
      · go_wp2_with (first
          | (go_at_call 101; (first | (with_reducible refine (l2Has_at hrow hq).mono ?_)); rintro e w2 ⟨rfl, rfl⟩))
        have S1 := Lib.hid (HS.out.own_made 3 1)
        go_ret2
        exact ⟨_, [], false, rfl, S1.out.owns_end (i := 0) rfl, by simp, fun x hx => by simp at hx, S1.out.below⟩
    · obtain rfl : k = b.length := by omega
      go_wp2_with fail
      go_ret2
      exact ⟨_, out, true, rfl, HS.out.owns_end (i := 0) rfl, by omega, HW.out, HS.out.below⟩

set_option maxRecDepth 100000 in
set_option maxHeartbeats 4000000 in
theorem l2ResolveW_any (x y : Value) (a b : List Int) (v : Int) (F G : List Nat) (w : World) (hx : Ty.int.row false w x a F) (hy : Ty.int.row false w y b G) (wa : Within 1000 a) (wb : Within 1000 b) (la : a.length ≤ 500) (lb : b.length ≤ 500) (h0 : -20 ≤ v) (h1 : v ≤ 20) :
    Calls Try.prog 102 #[x, y, .int .i64 v] w (JoinW (a.length + b.length) w) := by
  obtain ⟨aa, ac, rfl, _, _⟩ := Ty.row_len hx
  obtain ⟨ba, bc, rfl, _, _⟩ := Ty.row_len hy
  have hneg : wrap64 (-v) = -v := by unfold wrap64; omega
  cases hq : hasI a v
  · go_enter Try.func102, Try.ntmps102
    go_wp2_with (go_at_call 101; (with_reducible refine (l2Has_at hx hq).mono ?_); rintro e w2 ⟨rfl, rfl⟩)
    have S1 := Lib.hid ((Sp.start w).own_made 3 1)
    go_ret2
    exact ⟨_, [], false, rfl, S1.out.owns_end (i := 0) rfl, by simp, fun x hx => by simp at hx, S1.out.below⟩
  cases hq2 : hasI b (-v)
  · go_enter Try.func102, Try.ntmps102
    go_wp2_with (go_at_call 101; (first | (with_reducible refine (l2Has_at hx hq).mono ?_) | (with_reducible refine (l2Has_at hy hq2).mono ?_)); rintro e w2 ⟨rfl, rfl⟩)
    have S1 := Lib.hid ((Sp.start w).own_made 3 1)
    go_ret2
    exact ⟨_, [], false, rfl, S1.out.owns_end (i := 0) rfl, by simp, fun x hx => by simp at hx, S1.out.below⟩
  have g1 := Lib.hid (within_without wa v)
  have g2 := Lib.hid (within_without wb v)
  have l1 : (withoutB a v).length ≤ a.length := List.length_filter_le _ _
  have l2 : (withoutB b v).length ≤ b.length := List.length_filter_le _ _
  have hw1 := Lib.hid (l2Without_any _ a v F w hx (by omega))
  have hw2 := Lib.hid (fun W (h : Below w.heap.size w W) => l2Without_any _ b v G W (Ty.row_grow hy h) (by omega))
  generalize withoutB a v = a' at *
  generalize withoutB b v = b' at *
  go_enter Try.func102, Try.ntmps102
  go_wp2_with (go_at_call 101; (first | (with_reducible refine (l2Has_at hx hq).mono ?_) | (with_reducible refine (l2Has_at hy hq2).mono ?_)); rintro e w2 ⟨rfl, rfl⟩)
  refine hw1.out.mono ?_
  rintro e w1 ⟨v1, rfl, ho1, hb1⟩
  have S1 := (Sp.start w).own_call hb1 ho1
  obtain ⟨a1, c1, rfl⟩ := owns_form ho1
  replace S1 := Lib.hid S1
  clear ho1 hw1 hx hy
  go_wp2_with fail
  refine (hw2.out w1 hb1).mono ?_
  rintro e w2 ⟨v2, rfl, ho2, hb2⟩
  have S2 := S1.out.own_call hb2 ho2
  obtain ⟨a2, c2, rfl⟩ := owns_form ho2
  obtain ⟨H1, r1, -, -⟩ := own_row (S2.own (i := 1) rfl) (g1.out.i64 (by decide))
  obtain ⟨H2, r2, -, -⟩ := own_row (S2.own (i := 0) rfl) (g2.out.i64 (by decide))
  have hj := Lib.hid (l2JoinW_any _ _ _ _ H1 H2 w2 (Ty.row_down r1) (Ty.row_down r2) g1.out g2.out (by omega) (by omega))
  have hB2 := Lib.hid S2.below
  clear ho2 S1 S2 r1 r2 hw2 hb1 hb2
  go_wp2_with fail
  refine hj.out.mono ?_
  rintro e w3 ⟨v3, c, q, rfl, ho3, hc1, hc2, hb3⟩
  obtain ⟨a3, c3, rfl⟩ := owns_form ho3
  have hB3 := Lib.hid (btr hB2.out hb3)
  have hres : Hid (w3.ownsRow w.heap.size 3 1 (.slice a3 c.length c3) c.length (c.map (.int .i64))) := owns_base (owns_zero ho3) fun g hg => Nat.le_trans hB2.out.size (owns_ge ho3 g hg)
  replace hc2 := Lib.hid hc2
  clear hj ho3 hb3 hB2
  go_wp2_with fail
  go_ret2
  exact ⟨_, c, q, rfl, hres.out, by omega, hc2.out, hB3.out⟩
end Go.Proofs.Ytmikconjhmhekaa

/- Plain facts: clauses of up to a thousand variables: literals in order, put in, joined. No program in sight. -/
namespace Go.Proofs.Ytmikconjhmhekaa
open Go.RowKit

theorem hasS_iff {xs : List Int} {x : Int} : hasI xs x = true ↔ x ∈ xs := by unfold hasI; simp
theorem hasS_not {xs : List Int} {x : Int} : hasI xs x = false ↔ x ∉ xs := by rw [← hasS_iff]; simp
theorem LitS.abs {l : Int} (h : LitS l) : absV l = if l < 0 then -l else l := by
  rw [absV_lit h]; split <;> omega
def AscS (x y : Int) : Prop := absV x < absV y
/-- A clause in order. -/
structure GoodS (c : List Int) : Prop where
  mem : ∀ l ∈ c, LitS l
  asc : c.Pairwise AscS
theorem good_s {vars : Int} {c : List Int} (h : clauseB vars c = true) : GoodS c := by
  have h1 := (clause_s h).1
  refine ⟨h1, ?_⟩
  have h2 := clause_rising h
  rw [List.pairwise_iff_getElem] at h2 ⊢
  intro i j hi hj hij
  unfold AscS
  rw [absV_lit (h1 _ (List.getElem_mem hi)), absV_lit (h1 _ (List.getElem_mem hj))]
  exact Int.ofNat_lt.2 (h2 i j hi hj hij)
theorem GoodS.clash {c : List Int} (h : GoodS c) {x : Int} (hx : x ∈ c) (hy : -x ∈ c) : False := by
  have hl := h.mem x hx
  have key : ∀ {y z : Int}, y ∈ c → z ∈ c → absV y = absV z → y = z := fun {y z} hy hz e => by
    obtain ⟨i, hi, rfl⟩ := List.getElem_of_mem hy
    obtain ⟨j, hj, rfl⟩ := List.getElem_of_mem hz
    have hp := List.pairwise_iff_getElem.1 h.asc
    rcases Nat.lt_trichotomy i j with hij | hij | hij
    · have := hp i j hi hj hij; unfold AscS at this; omega
    · subst hij; rfl
    · have := hp j i hj hi hij; unfold AscS at this; omega
  have := key hx hy (by rw [hl.abs, (h.mem _ hy).abs]; unfold LitS at hl; split <;> split <;> omega)
  unfold LitS at hl
  omega
theorem GoodS.ext {a b : List Int} (ha : GoodS a) (hb : GoodS b) (h : ∀ x, x ∈ a ↔ x ∈ b) : a = b := by
  have key : ∀ {a b : List Int}, a.Pairwise AscS → b.Pairwise AscS → (∀ x, x ∈ a ↔ x ∈ b) → a = b := by
    intro a
    induction a with
    | nil =>
      intro b _ _ h
      cases b with
      | nil => rfl
      | cons y b => exact absurd ((h y).2 List.mem_cons_self) (by simp)
    | cons x a ih =>
      intro b ha hb h
      cases b with
      | nil => exact absurd ((h x).1 List.mem_cons_self) (by simp)
      | cons y b =>
        rw [List.pairwise_cons] at ha hb
        unfold AscS at ha hb
        have e : x = y := by
          rcases List.mem_cons.1 ((h x).1 List.mem_cons_self) with e | hx
          · exact e
          rcases List.mem_cons.1 ((h y).2 List.mem_cons_self) with e | hy
          · exact e.symm
          have := hb.1 x hx; have := ha.1 y hy; omega
        subst e
        congr 1
        refine ih ha.2 hb.2 fun z => ⟨fun hz => ?_, fun hz => ?_⟩
        · rcases List.mem_cons.1 ((h z).1 (List.mem_cons_of_mem _ hz)) with e | h2
          · have := ha.1 z hz; rw [e] at this; omega
          · exact h2
        · rcases List.mem_cons.1 ((h z).2 (List.mem_cons_of_mem _ hz)) with e | h2
          · have := hb.1 z hz; rw [e] at this; omega
          · exact h2
  exact key ha.asc hb.asc h
theorem memS_putB {c : List Int} {l x : Int} : x ∈ putB c l ↔ x = l ∨ x ∈ c := by
  unfold putB
  rw [List.mem_append, List.mem_cons]
  conv => rhs; rw [← List.take_append_drop (litAt c l) c, List.mem_append]
  exact ⟨fun h => by rcases h with h | h | h <;> simp [h], fun h => by rcases h with h | h | h <;> simp [h]⟩
theorem GoodS.put {c : List Int} (h : GoodS c) {l : Int} (hl : LitS l) (hn : ∀ y ∈ c, absV y ≠ absV l) : GoodS (putB c l) := by
  refine ⟨fun x hx => ?_, ?_⟩
  · rcases memS_putB.1 hx with rfl | hx
    · exact hl
    · exact h.mem x hx
  · have e0 := List.takeWhile_append_dropWhile (p := fun x => decide (absV x < absV l)) (l := c)
    have e1 : c.take (litAt c l) = c.takeWhile (fun x => decide (absV x < absV l)) := by
      have := congrArg (List.take (litAt c l)) e0
      rw [← this]; exact List.take_left' rfl
    have e2 : c.drop (litAt c l) = c.dropWhile (fun x => decide (absV x < absV l)) := by
      have := congrArg (List.drop (litAt c l)) e0
      rw [← this]; exact List.drop_left' rfl
    unfold putB
    rw [List.pairwise_append, List.pairwise_cons]
    have hd : ∀ y ∈ c.drop (litAt c l), absV l < absV y := by
      intro y hy
      have hne := hn y (List.mem_of_mem_drop hy)
      rw [e2] at hy
      have hp : (c.dropWhile (fun x => decide (absV x < absV l))).Pairwise AscS := by rw [← e2]; exact h.asc.drop
      cases hdw : c.dropWhile (fun x => decide (absV x < absV l)) with
      | nil => rw [hdw] at hy; cases hy
      | cons z t =>
        have hz : ¬ absV z < absV l := by
          have := List.head_dropWhile_not (fun x => decide (absV x < absV l)) (l := c) (by rw [hdw]; simp)
          simp only [hdw, List.head_cons] at this
          simpa using this
        rw [hdw] at hy hp
        rcases List.mem_cons.1 hy with rfl | hy
        · omega
        · have := (List.pairwise_cons.1 hp).1 y hy
          unfold AscS at this; omega
    have ht : ∀ y ∈ c.take (litAt c l), absV y < absV l := by
      intro y hy
      rw [e1] at hy
      simpa using List.all_eq_true.1 (List.all_takeWhile (p := fun x => decide (absV x < absV l)) (l := c)) y hy
    exact ⟨h.asc.take, ⟨hd, h.asc.drop⟩, fun a ha b hb => by
      rcases List.mem_cons.1 hb with rfl | hb
      · exact ht a ha
      · have := ht a ha; have := hd b hb; show absV a < absV b; omega⟩

def joinS (out : List Int) : List Int → Option (List Int)
  | [] => some out
  | l :: b => if hasI out (-l) then none else joinS (if hasI out l then out else putB out l) b
theorem joinS_spec : ∀ {b out : List Int}, GoodS out → GoodS b →
    (joinS out b = none ∧ ∃ l ∈ b, -l ∈ out) ∨ (∃ c, joinS out b = some c ∧ GoodS c ∧ (∀ x, x ∈ c ↔ x ∈ out ∨ x ∈ b) ∧ ∀ l ∈ b, -l ∉ out)
  | [], out, ho, _ => .inr ⟨out, rfl, ho, by simp, by simp⟩
  | l :: b, out, ho, hb => by
    have hl := hb.mem l List.mem_cons_self
    have hb2 : GoodS b := ⟨fun x hx => hb.mem x (List.mem_cons_of_mem _ hx), (List.pairwise_cons.1 hb.asc).2⟩
    have hlb : ∀ x ∈ b, absV l < absV x := (List.pairwise_cons.1 hb.asc).1
    unfold joinS
    by_cases hc : -l ∈ out
    · rw [if_pos (hasS_iff.2 hc)]
      exact .inl ⟨rfl, l, List.mem_cons_self, hc⟩
    · rw [if_neg (by rw [hasS_iff]; exact hc)]
      have hout : ∃ out', (if hasI out l then out else putB out l) = out' ∧ GoodS out' ∧ ∀ x, x ∈ out' ↔ x = l ∨ x ∈ out := by
        by_cases h : l ∈ out
        · rw [if_pos (hasS_iff.2 h)]
          exact ⟨_, rfl, ho, fun x => ⟨.inr, fun hx => by rcases hx with rfl | hx; exact h; exact hx⟩⟩
        · rw [if_neg (by rw [hasS_iff]; exact h)]
          refine ⟨_, rfl, ho.put hl fun y hy e => ?_, fun x => memS_putB⟩
          have hy6 := ho.mem y hy
          rw [hy6.abs, hl.abs] at e
          have : y = l ∨ y = -l := by
            have h1 := hy6; have h2 := hl
            unfold LitS at h1 h2
            split at e <;> split at e <;> omega
          rcases this with rfl | rfl
          · exact h hy
          · exact hc hy
      obtain ⟨out', he, hg, hm⟩ := hout
      rw [he]
      rcases joinS_spec hg hb2 with ⟨h1, x, hx, hx2⟩ | ⟨c, h1, h2, h3, h4⟩
      · refine .inl ⟨h1, x, List.mem_cons_of_mem _ hx, ?_⟩
        rcases (hm _).1 hx2 with e | e
        · exfalso
          have h5 := hlb x hx
          have h6 := hb.mem x (List.mem_cons_of_mem _ hx)
          rw [hl.abs, h6.abs] at h5
          unfold LitS at h6 hl
          split at h5 <;> split at h5 <;> omega
        · exact e
      · refine .inr ⟨c, h1, h2, fun x => ?_, fun x hx => ?_⟩
        · rw [h3, hm, List.mem_cons]
          exact ⟨fun h => by rcases h with (h | h) | h <;> simp [h], fun h => by rcases h with h | h | h <;> simp [h]⟩
        · rcases List.mem_cons.1 hx with rfl | hx
          · exact hc
          · exact fun h => h4 x hx ((hm _).2 (.inr h))
end Go.Proofs.Ytmikconjhmhekaa

/- Plain facts: literals sorted by their variables, without repetitions. No program in sight. -/
namespace Go.Proofs.Ytmikconjhmhekaa
open Go.RowKit

/-- The size of a number, as the program reckons it. -/
def absW (l : Int) : Int := if l < wrap64 (-l) then wrap64 (-l) else l
theorem absW_lit {l : Int} (h : LitS l) : absW l = absV l := by
  rw [h.abs]
  unfold LitS at h
  unfold absW wrap64
  split <;> split <;> omega
/-- The order of literals: by variables, the positive one first. -/
def cmpL (a b : Int) : Int := if absW a < absW b then -1 else if absW b < absW a then 1 else if b < a then -1 else if a < b then 1 else 0
def befL (x y : Int) : Prop := absW x < absW y ∨ (absW x = absW y ∧ y < x)
theorem cmpL_neg {x y : Int} : cmpL x y < 0 ↔ befL x y := by
  unfold cmpL befL
  split
  · simp; omega
  · split
    · simp; omega
    · split
      · simp; omega
      · split <;> simp <;> omega
theorem befL_trans {a b c : Int} (h : befL a b) (k : befL b c) : befL a c := by unfold befL at *; omega
theorem befL_or {x y : Int} (h : ¬ befL y x) : befL x y ∨ x = y := by unfold befL at *; omega
def sortL (zs : List Int) : List Int := zs.mergeSort fun x y => !decide (cmpL y x < 0)
theorem sortL_weak (zs : List Int) : (sortL zs).Pairwise fun a b => befL a b ∨ a = b := by
  have h := List.pairwise_mergeSort (le := fun x y : Int => !decide (cmpL y x < 0)) (fun a b c h1 h2 => by
    simp only [Bool.not_eq_true', decide_eq_false_iff_not, cmpL_neg] at *
    unfold befL at *; omega) (fun a b => by
    simp only [Bool.or_eq_true, Bool.not_eq_true', decide_eq_false_iff_not, cmpL_neg]
    unfold befL; omega) zs
  refine h.imp fun h => befL_or ?_
  simpa only [Bool.not_eq_true', decide_eq_false_iff_not, cmpL_neg] using h
theorem compactR_asc {R : Int → Int → Prop} (ht : ∀ a b c, R a b → R b c → R a c) {l : List Int} (h : l.Pairwise fun a b => R a b ∨ a = b) : (Lib.compact l).Pairwise R := by
  unfold Lib.compact Lib.compactUpTo
  rw [List.pairwise_map]
  have hr : ((List.range l.length).filter (Lib.keeps l.toArray)).Pairwise (· < ·) := List.Pairwise.filter _ List.pairwise_lt_range
  refine hr.imp_of_mem fun {i j} hi hj hij => ?_
  have hil := List.mem_range.1 (List.mem_filter.1 hi).1
  have hjl := List.mem_range.1 (List.mem_filter.1 hj).1
  have hk := (List.mem_filter.1 hj).2
  rw [bangI hil, bangI hjl]
  have hget := List.pairwise_iff_getElem.1 h
  have hne : l[j] ≠ l[j - 1]'(by omega) := fun e => by
    have : Lib.keeps l.toArray j = false := Lib.keeps_neg (by omega) (by rw [bangI hjl, bangI (by omega)]; exact e)
    rw [this] at hk; cases hk
  have h1 : R (l[j - 1]'(by omega)) l[j] := by
    rcases hget (j - 1) j (by omega) hjl (by omega) with h | h
    · exact h
    · exact absurd h.symm hne
  by_cases e : i = j - 1
  · subst e; exact h1
  · rcases hget i (j - 1) hil (by omega) (by omega) with h | h
    · exact ht _ _ _ h h1
    · rw [h]; exact h1
def cptL (zs : List Int) : List Int := Lib.compact (sortL zs)
theorem cptL_asc (zs : List Int) : (cptL zs).Pairwise befL := by
  unfold cptL
  exact compactR_asc (R := befL) (fun _ _ _ => befL_trans) (sortL_weak zs)
theorem cptL_mem {zs : List Int} {x : Int} : x ∈ cptL zs ↔ x ∈ zs := by unfold cptL sortL; rw [compactI_mem, List.mem_mergeSort]
theorem cptL_len (zs : List Int) : (cptL zs).length ≤ zs.length := by
  have := Lib.compact_length_le (sortL zs)
  unfold cptL
  have h2 : (sortL zs).length = zs.length := List.length_mergeSort _
  omega
/-- No literal is followed by its negation, up to a place. -/
def okTo (out : List Int) (k : Nat) : Bool := (List.range k).all fun i => !(out.getD (i + 1) 0 == -(out.getD i 0))
theorem okTo_next {out : List Int} {k : Nat} (h : okTo out k = true) (h2 : (out.getD (k + 1) 0 == -(out.getD k 0)) = false) : okTo out (k + 1) = true := by
  unfold okTo at *
  rw [List.range_succ, List.all_append, h, Bool.true_and]
  simp only [List.all_cons, List.all_nil, Bool.and_true, h2]
  rfl
theorem okTo_no {out : List Int} {k n : Nat} (hk : k < n) (h : (out.getD (k + 1) 0 == -(out.getD k 0)) = true) : okTo out n = false := by
  unfold okTo
  rw [List.all_eq_false]
  exact ⟨k, List.mem_range.2 hk, by rw [h]; decide⟩
/-- The clause of literals. -/
def clauseR (zs : List Int) : Option (List Int) := if okTo (cptL zs) ((cptL zs).length - 1) then some (cptL zs) else none
theorem clauseR_some {zs : List Int} (hl : ∀ x ∈ zs, LitS x) (hn : ∀ x ∈ zs, -x ∉ zs) : clauseR zs = some (cptL zs) ∧ GoodS (cptL zs) := by
  have hm : ∀ x ∈ cptL zs, LitS x := fun x hx => hl x (cptL_mem.1 hx)
  constructor
  · unfold clauseR
    rw [if_pos]
    unfold okTo
    rw [List.all_eq_true]
    intro i hi
    have hi := List.mem_range.1 hi
    have h1 : i + 1 < (cptL zs).length := by omega
    rw [List.getD_eq_getElem?_getD, List.getD_eq_getElem?_getD, List.getElem?_eq_getElem h1, List.getElem?_eq_getElem (by omega : i < (cptL zs).length)]
    simp only [Option.getD_some, Bool.not_eq_true', beq_eq_false_iff_ne]
    intro e
    refine hn _ (cptL_mem.1 (List.getElem_mem (by omega : i < (cptL zs).length))) ?_
    rw [← e]
    exact cptL_mem.1 (List.getElem_mem h1)
  · refine ⟨hm, ?_⟩
    refine (cptL_asc zs).imp_of_mem fun {a b} ha hb h => ?_
    have la := hm a ha; have lb := hm b hb
    unfold befL at h
    rw [absW_lit la, absW_lit lb] at h
    rcases h with h | ⟨h, h2⟩
    · exact h
    · exfalso
      have : b = -a := by
        rw [la.abs, lb.abs] at h
        unfold LitS at la lb
        split at h <;> split at h <;> omega
      refine hn a (cptL_mem.1 ha) ?_
      rw [← this]
      exact cptL_mem.1 hb
theorem clauseR_none {zs : List Int} (hl : ∀ x ∈ zs, LitS x) {y : Int} (hy : y ∈ zs) (hy2 : -y ∈ zs) : clauseR zs = none := by
  have hm : ∀ x ∈ cptL zs, LitS x := fun x hx => hl x (cptL_mem.1 hx)
  obtain ⟨x, hx, hx2, h0⟩ : ∃ x, x ∈ cptL zs ∧ -x ∈ cptL zs ∧ 0 < x := by
    have := hl y hy
    unfold LitS at this
    by_cases h : 0 < y
    · exact ⟨y, cptL_mem.2 hy, cptL_mem.2 hy2, h⟩
    · exact ⟨-y, cptL_mem.2 hy2, by rw [Int.neg_neg]; exact cptL_mem.2 hy, by omega⟩
  unfold clauseR
  rw [if_neg]
  obtain ⟨i, hi, rfl⟩ := List.getElem_of_mem hx
  obtain ⟨j, hj, e⟩ := List.getElem_of_mem hx2
  have hp := List.pairwise_iff_getElem.1 (cptL_asc zs)
  have lx := hm _ (List.getElem_mem hi)
  have habs : absW (-(cptL zs)[i]) = absW (cptL zs)[i] := by
    have l2 := hm _ hx2
    rw [absW_lit lx, absW_lit l2, lx.abs, l2.abs]
    split <;> split <;> omega
  have hij : i < j := by
    rcases Nat.lt_trichotomy i j with h | h | h
    · exact h
    · subst h; omega
    · have := hp j i hj hi h
      rw [e] at this
      unfold befL at this; omega
  have hjn : j = i + 1 := by
    rcases Nat.lt_or_ge (i + 1) j with h | h
    · exfalso
      have h1 := hp i (i + 1) hi (by omega) (by omega)
      have h2 := hp (i + 1) j (by omega) hj h
      rw [e] at h2
      have l3 := hm _ (List.getElem_mem (by omega : i + 1 < (cptL zs).length))
      have l2 := hm _ hx2
      unfold befL at h1 h2
      rw [absW_lit lx, absW_lit l3, lx.abs, l3.abs] at h1
      rw [absW_lit l3, absW_lit l2, l3.abs, l2.abs] at h2
      unfold LitS at l3
      split at h1 <;> split at h1 <;> split at h2 <;> omega
    · omega
  rw [Bool.not_eq_true]
  refine okTo_no (k := i) (by omega) ?_
  rw [List.getD_eq_getElem?_getD, List.getD_eq_getElem?_getD, List.getElem?_eq_getElem (by omega : i + 1 < (cptL zs).length), List.getElem?_eq_getElem hi]
  subst hjn
  simp only [Option.getD_some, beq_iff_eq]
  exact e
theorem clauseR_join {a b : List Int} (ga : GoodS a) (gb : GoodS b) : clauseR (a ++ b) = joinS a b := by
  have hl : ∀ x ∈ a ++ b, LitS x := fun x hx => by
    rcases List.mem_append.1 hx with h | h
    · exact ga.mem x h
    · exact gb.mem x h
  rcases joinS_spec ga gb with ⟨h1, l, hl2, hn⟩ | ⟨c, h1, gc, hm, hn⟩
  · rw [h1]
    exact clauseR_none hl (List.mem_append.2 (.inr hl2)) (List.mem_append.2 (.inl hn))
  · rw [h1]
    obtain ⟨h2, g2⟩ := clauseR_some hl fun x hx hx2 => by
      rcases List.mem_append.1 hx with h | h <;> rcases List.mem_append.1 hx2 with h' | h'
      · exact ga.clash h h'
      · exact hn _ h' (by rw [Int.neg_neg]; exact h)
      · exact hn x h h'
      · exact gb.clash h h'
    rw [h2]
    congr 1
    exact g2.ext gc fun x => by rw [cptL_mem, List.mem_append, hm]
theorem without_good {c : List Int} (h : GoodS c) (v : Int) : GoodS (withoutB c v) := ⟨fun l hl => h.mem l (List.mem_filter.1 hl).1, h.asc.filter _⟩
theorem memS_without {c : List Int} {v x : Int} : x ∈ withoutB c v ↔ x ∈ c ∧ absV x ≠ v := by
  unfold withoutB
  rw [List.mem_filter]
  simp
/-- A literal is set. -/
def setS (a : List Int) (l : Int) : List Int := putB (withoutB a (absV l)) l
theorem set_good {a : List Int} (ga : GoodS a) {l : Int} (hl : LitS l) : GoodS (setS a l) := (without_good ga _).put hl fun y hy => (memS_without.1 hy).2
theorem clauseR_set {a : List Int} (ga : GoodS a) {l : Int} (hl : LitS l) : clauseR (withoutB a (absV l) ++ [l]) = some (setS a l) := by
  have gw := without_good ga (absV l)
  have habs : absV (-l) = absV l := by
    have h2 : LitS (-l) := by unfold LitS at *; omega
    rw [hl.abs, h2.abs]; split <;> split <;> omega
  obtain ⟨h2, g2⟩ := clauseR_some (zs := withoutB a (absV l) ++ [l]) (fun x hx => by
    rcases List.mem_append.1 hx with h | h
    · exact gw.mem x h
    · obtain rfl : x = l := by simpa using h
      exact hl) fun x hx hx2 => by
    rcases List.mem_append.1 hx with h | h <;> rcases List.mem_append.1 hx2 with h' | h'
    · exact gw.clash h h'
    · have e : -x = l := by simpa using h'
      have : x = -l := by omega
      subst this
      exact (memS_without.1 h).2 habs
    · obtain rfl : x = l := by simpa using h
      exact (memS_without.1 h').2 habs
    · obtain rfl : x = l := by simpa using h
      have e : -x = x := by simpa using h'
      unfold LitS at hl; omega
  rw [h2]
  congr 1
  exact g2.ext (set_good ga hl) fun x => by
    unfold setS
    rw [cptL_mem, memS_putB, List.mem_append]
    simp [or_comm]
end Go.Proofs.Ytmikconjhmhekaa

/- Contract: clauses joined, in the reference, to the word. -/
namespace Go.Proofs.Ytmikconjhmhekaa
open Go.RowKit

theorem joinS_no {out b : List Int} {l : Int} (h : hasI out (-l) = true) : joinS out (l :: b) = none := by unfold joinS; rw [if_pos h]
theorem joinS_has {out b : List Int} {l : Int} (h : hasI out (-l) = false) (h2 : hasI out l = true) : joinS out (l :: b) = joinS out b := by rw [joinS, if_neg (by rw [h]; simp), if_pos h2]
theorem joinS_put {out b : List Int} {l : Int} (h : hasI out (-l) = false) (h2 : hasI out l = false) : joinS out (l :: b) = joinS (putB out l) b := by rw [joinS, if_neg (by rw [h]; simp), if_neg (by rw [h2]; simp)]

set_option maxRecDepth 100000 in
set_option maxHeartbeats 4000000 in
theorem l2JoinS_any (v u : Value) (a b : List Int) (F G : List Nat) (w : World) (hx : Ty.int.row false w v a F) (hy : Ty.int.row false w u b G) (wa : Within 1000 a) (wb : Within 1000 b) (la : a.length ≤ 1000) (lb : b.length ≤ 1000) :
    Calls Try.prog 176 #[v, u] w (IAns w (joinS a b).isSome ((joinS a b).getD [])) := by
  obtain ⟨aa, ac, rfl, _, _⟩ := Ty.row_len hx
  obtain ⟨ba, bc, rfl, hy1, hy2, _, hy3⟩ := row_int hy
  go_enter Try.func176, Try.ntmps176
  go_wp2_with fail
  refine (l1Own_any _ a F w hx (by omega)).mono ?_
  rintro e w1 ⟨v1, rfl, ho1, hb1⟩
  have S0 := (Sp.start w).own_call hb1 ho1
  obtain ⟨a1, c1, rfl⟩ := owns_form ho1
  replace S0 := Lib.hid S0
  have hW0 := Lib.hid wa
  have hj0 : Hid (joinS a (b.drop 0) = joinS a b) := by unfold Hid; rw [List.drop_zero]
  clear ho1 hb1
  go_wp2_with fail
  go_loopw [6, 7] (fun s i wr => ∃ (k : Nat) (out : List Int), k ≤ b.length ∧ i = .int .i64 k ∧ out.length ≤ a.length + k ∧ Hid (Within 1000 out) ∧ Hid (joinS out (b.drop k) = joinS a b) ∧ Hid (Sp w wr [Own 3 1 s out.length (out.map (.int .i64))])) (fun _ i _ => b.length - (intOf i).toNat)
  case atStart => exact ⟨0, a, Nat.zero_le _, rfl, by omega, hW0, hj0, S0⟩
  case round =>
    obtain ⟨k, out, hk, rfl, hol, HW, HJ, HS⟩ := hrel
    clear hj0
    clear S0
    obtain ⟨sa, sc, rfl⟩ := owns_form (HS.out.own (i := 0) rfl)
    by_cases hlt : k < b.length
    · rcases hy3 with ⟨rfl, rfl⟩ | ⟨hyn, bk, off, rfl, rfl, hyc⟩
      · exact absurd hlt (by simp)
      have hB := HS.out.below
      have k0 := ((hyc k hlt).keep (hB.block bk (hyc k hlt).lt)).1
      have hl6 := wb _ (List.getElem_mem hlt)
      obtain ⟨H, hrow', -, -⟩ := own_row (HS.out.own (i := 0) rfl) (HW.out.i64 (by decide))
      have hrow := Ty.row_down hrow'
      have hd := List.drop_eq_getElem_cons hlt
      obtain ⟨l, hl⟩ : ∃ l, l = b[k] := ⟨_, rfl⟩
      rw [← hl] at k0 hl6 hd
      have HJ2 := HJ.out
      rw [hd] at HJ2
      replace hd := Lib.hid hd
      have hneg : wrap64 (-l) = -l := by unfold wrap64; omega
      have hl0 : -1000 ≤ l := hl6.1
      have hl1 : l ≤ 1000 := hl6.2
      replace hl := Lib.hid hl
      clear hyc hB hl hl6 hrow'
      cases hq : hasI out (-l)
      · cases hq2 : hasI out l
        · rw [joinS_put hq hq2] at HJ2
          replace HJ2 := Lib.hid HJ2
          have HN := Lib.hid (within_put HW.out ⟨hl0, hl1⟩)
          have hpl := Lib.hid (put_len out l)
          have hol9 : out.length ≤ 1000000000 := by omega
          go_wp2_with (first
            | (go_at_call 101; (first | (with_reducible refine (l2Has_at hrow hq).mono ?_) | (with_reducible refine (l2Has_at hrow hq2).mono ?_)); rintro e w2 ⟨rfl, rfl⟩)
            | (go_at_call 203; (with_reducible refine (l2Put_any _ out l H _ hrow hol9).mono ?_); rintro e w2 ⟨v2, rfl, ho2, hb2⟩))
          have S1 := (HS.out.own_call hb2 ho2).drop2w
          obtain ⟨a2, c2, rfl⟩ := owns_form ho2
          replace S1 := Lib.hid S1
          clear ho2 hb2 HS hrow HJ hd
          generalize putB out l = out2 at *
          go_wp2_with fail
          go_roundw
          case rel => exact ⟨k + 1, out2, by omega, by go_num, by rw [hpl.out]; omega, HN, HJ2, S1⟩
          case measure => simp [intOf]; omega
        · rw [joinS_has hq hq2] at HJ2
          replace HJ2 := Lib.hid HJ2
          clear HJ hd
          go_wp2_with (first
            | (go_at_call 101; (first | (with_reducible refine (l2Has_at hrow hq).mono ?_) | (with_reducible refine (l2Has_at hrow hq2).mono ?_)); rintro e w2 ⟨rfl, rfl⟩))
          go_roundw
          case rel => exact ⟨k + 1, out, by omega, by go_num, by omega, HW, HJ2, HS⟩
          case measure => simp [intOf]; omega
      · rw [joinS_no hq] at HJ2
        replace HJ2 := Lib.hid HJ2
        clear HJ hd
        go_wp2_with (first
          | (go_at_call 101; (first | (with_reducible refine (l2Has_at hrow hq).mono ?_)); rintro e w2 ⟨rfl, rfl⟩))
        have S1 := Lib.hid (HS.out.own_made 3 1)
        go_ret2
        rw [← HJ2.out]
        exact ⟨_, _, rfl, IntsAt.nil _ _, S1.out.below⟩
    · obtain rfl : k = b.length := by omega
      have HJ2 := HJ.out
      rw [List.drop_length] at HJ2
      replace HJ2 := Lib.hid HJ2
      clear HJ
      go_wp2_with fail
      go_ret2
      rw [← HJ2.out]
      exact ⟨_, _, rfl, HS.out.ints (i := 0) rfl (HW.out.i64 (by decide)), HS.out.below⟩

end Go.Proofs.Ytmikconjhmhekaa

/- Contracts: two rows of numbers put together, in the library; a variable left out of a clause, in the program. -/
namespace Go.Proofs.Ytmikconjhmhekaa
open Go.RowKit Go.Shelf

def growRenI : Go.Shelf.Ren := ⟨fun | 4 => 238 | n => n, fun | 22 => 30 | 25 => 3 | n => n, fun | n => n⟩
theorem growLayI : Lays8.n4 Try.prog growRenI := {
  mixed := by kernel_rfl
  f4 := ⟨Try.f238.name, by kernel_rfl, Try.func238.trans (congrArg some (by kernel_rfl))⟩
  t0 := Try.underlying0
  a0 := Try.isAgg0
  z0 := Try.sizeOf0
  v0 := Try.zeroValue0
  t3 := Try.underlying3
  a3 := Try.isAgg3
  z3 := Try.sizeOf3
  v3 := Try.zeroValue3
  t4 := Try.underlying4
  a4 := Try.isAgg4
  z4 := Try.sizeOf4
  v4 := Try.zeroValue4
  t9 := Try.underlying9
  a9 := Try.isAgg9
  z9 := Try.sizeOf9
  v9 := Try.zeroValue9
  t20 := Try.underlying20
  a20 := Try.isAgg20
  z20 := Try.sizeOf20
  v20 := Try.zeroValue20
  t22 := Try.underlying30
  a22 := Try.isAgg30
  z22 := Try.sizeOf30
  v22 := Try.zeroValue30 }

theorem growI_any (n : Nat) (hn : n ≤ 1000000) (w : World) : Calls Try.prog 238 #[.slice none 0 0, .int .i64 n] w fun e w' => ∃ B cc, e = .returned (.slice B 0 cc) ∧ Sp w w' [Own 3 1 (.slice B 0 cc) 0 []] := by
  obtain ⟨i1, hi, hz0, hz1, hz2⟩ := info_parts infoInt
  rcases Nat.eq_zero_or_pos n with rfl | h0
  · refine (Any8.slices_Grow_room growLayI none 0 0 0 w (by decide) (by decide) (by decide) (by decide)).mono ?_
    rintro e w' ⟨rfl, rfl⟩
    exact ⟨none, 0, rfl, (Sp.start _).own_nil _ _⟩
  · have h := Any8.slices_Grow_grow growLayI i1 _ hi hz0 (by omega) none 0 0 n [] w (by decide) (by omega) (by rw [hz2]; omega) (by omega) (by simp) (fun _ => rfl) (fun a e => by cases e)
    refine h.mono ?_
    rintro e w' ⟨rfl, rfl⟩
    have hb : Below w.heap.size w w.drew := bdr (bb w)
    have S := (Sp.of_below hb)
    refine ⟨_, _, rfl, S.own_new (bal (bb _) _) (World.ownsRow_made w.drew _ _ (Nat.zero_le _) (grownCap_le_maxLen w _ _ _ (by unfold maxLen; omega)) ?_) fun g hg => ?_⟩
    · have := grownCap_ge w (0 + n) 0 (growRenI.t 25)
      generalize grownCap w (0 + n) 0 (growRenI.t 25) = q at *
      simp only [Array.size_append, size_zeroCells, List.size_toArray, List.length_nil, Value.cells, List.length_cons]
      omega
    · have : g = w.heap.size := by simpa [Value.ownBlock] using hg.symm
      subst this
      exact Nat.le_refl _

set_option maxRecDepth 100000 in
set_option maxHeartbeats 4000000 in
theorem concatI_any (b : Nat) (A1 A2 : Option Addr) (n1 n2 c1 c2 : Nat) (us1 us2 : List Value) (w : World) (h0 : w.cell? ⟨b, 0, none⟩ = some (.slice A1 n1 c1)) (h1 : w.cell? ⟨b, 1, none⟩ = some (.slice A2 n2 c2)) (hs1 : Src w A1 n1 1 us1) (hs2 : Src w A2 n2 1 us2)
    (o1 : ∀ u ∈ us1, u.oneCell' = true) (o2 : ∀ u ∈ us2, u.oneCell' = true) (l1 : n1 ≤ 1000) (l2 : n2 ≤ 1000) :
    Calls Try.prog 174 #[.slice (some ⟨b, 0, none⟩) 2 2] w fun e w' => ∃ B cc, e = .returned (.slice B (n1 + n2) cc) ∧ Sp w w' [Own 3 1 (.slice B (n1 + n2) cc) (n1 + n2) (us1 ++ us2)] := by
  obtain ⟨i1, hi, hz0, hz1, hz2⟩ := info_parts infoInt
  have key : Hid (∀ k, k < 2 → ∃ A n c us, w.cell? ⟨b, k, none⟩ = some (.slice A n c) ∧ Src w A n 1 us ∧ (∀ u ∈ us, u.oneCell' = true) ∧ n ≤ 1000 ∧ szK n1 n2 (k + 1) = szK n1 n2 k + n ∧ catK us1 us2 (k + 1) = catK us1 us2 k ++ us) := fun k hk => by
    rcases k with _ | _ | k
    · exact ⟨A1, n1, c1, us1, h0, hs1, o1, l1, by simp [szK], by simp [catK]⟩
    · exact ⟨A2, n2, c2, us2, h1, hs2, o2, l2, rfl, rfl⟩
    · omega
  have hle : ∀ k, szK n1 n2 k ≤ 2000 := fun k => by
    rcases k with _ | _ | k <;> simp only [szK] <;> omega
  have hS0 : Hid (szK n1 n2 0 = 0) := rfl
  have hC0 : Hid (catK us1 us2 0 = []) := rfl
  have hS2 : Hid (szK n1 n2 2 = n1 + n2) := rfl
  have hC2 : Hid (catK us1 us2 2 = us1 ++ us2) := rfl
  replace hle := Lib.hid hle
  generalize szK n1 n2 = sz at *
  generalize catK us1 us2 = ct at *
  obtain ⟨m, hm⟩ : ∃ m, n1 + n2 = m := ⟨_, rfl⟩
  rw [hm] at hS2 ⊢
  clear hm h0 h1 hs1 hs2 o1 o2 l1 l2
  go_enter Try.func174, Try.ntmps174
  go_wp2_with fail
  go_loopw [3, 5, 11] (fun v3 _ v11 wr => ∃ (k z : Nat), k ≤ 2 ∧ v11 = .int .i64 k ∧ v3 = .int .i64 z ∧ z ≤ 2000 ∧ Hid (sz k = z) ∧ Hid (Below w.heap.size w wr)) (fun _ _ v11 _ => 2 - (intOf v11).toNat)
  case atStart => exact ⟨0, 0, by omega, rfl, rfl, by omega, hS0, bb _⟩
  case round =>
    obtain ⟨k, z, hk, rfl, rfl, hz, hsz, HB⟩ := hrel
    by_cases hlt : k < 2
    · obtain ⟨Ak, nk, ck, us, hc, -, -, hnk, hsn, -⟩ := key.out k hlt
      have hc2 := cell_below hc HB.out
      have hzn : Hid (sz (k + 1) = z + nk) := by unfold Hid; rw [hsn, hsz.out]
      have hyb : z + nk ≤ 2000 := by have := hle.out (k + 1); rw [hzn.out] at this; exact this
      have hwr : IntKind.i64.wrap ((z : Int) + nk) = ((z + nk : Nat) : Int) := by rw [IntWalk.i64_in _ (by omega)]; omega
      obtain ⟨y, hy⟩ : ∃ y, z + nk = y := ⟨_, rfl⟩
      rw [hy] at hwr hyb hzn
      have hneg : decide ((y : Int) < 0) = false := decide_eq_false (by omega)
      replace hy := Lib.hid hy
      clear hc hsn
      have hwr2 := hwr
      go_wp2_with fail
      go_roundw
      case rel => exact ⟨k + 1, y, by omega, by go_num, rfl, hyb, hzn, HB⟩
      case measure => simp [intOf]; omega
    · obtain rfl : k = 2 := by omega
      obtain rfl : z = m := by rw [← hsz.out]; exact hS2.out
      have hgr := Lib.hid (growI_any z (by omega) wr)
      have S0 := Lib.hid (Sp.of_below HB.out)
      clear HB hsz
      go_wp2_with fail
      refine hgr.out.mono ?_
      rintro e w2 ⟨B, cc, rfl, T⟩
      have S1 : Hid (Sp w w2 [Own 3 1 (.slice B 0 cc) 0 []]) := S0.out.seq T
      clear hgr S0 T
      go_wp2_with fail
      go_loopw [6, 8, 27] (fun v6 _ v27 wr => ∃ (k y : Nat) (B : Option Addr) (cc : Nat) (us : List Value), k ≤ 2 ∧ v27 = .int .i64 k ∧ v6 = .slice B y cc ∧ y ≤ 2000 ∧ Hid (sz k = y) ∧ Hid (ct k = us) ∧ Hid (Sp w wr [Own 3 1 (.slice B y cc) y us])) (fun _ _ v27 _ => 2 - (intOf v27).toNat)
      case atStart => exact ⟨0, 0, B, cc, [], by omega, rfl, rfl, by omega, hS0, hC0, S1⟩
      case round =>
        clear S1
        obtain ⟨k, y, B, cc, us, hk, rfl, rfl, hyl, hsy, hcy, HS⟩ := hrel
        by_cases hlt : k < 2
        · obtain ⟨Ak, nk, ck, vs, hc, hsr, ho, hnk, hsn, hcn⟩ := key.out k hlt
          have hc2 := cell_below hc HS.out.below
          have hsr2 := Lib.hid (hsr.grow HS.out.below)
          have hoH := Lib.hid ho
          have hzn : Hid (sz (k + 1) = y + nk) := by unfold Hid; rw [hsn, hsy.out]
          have hyb : y + nk ≤ 2000 := by have := hle.out (k + 1); rw [hzn.out] at this; exact this
          have hcn2 : Hid (ct (k + 1) = us ++ vs) := by unfold Hid; rw [hcn, hcy.out]
          clear hc hsr ho hsn hcn
          go_wp2_with (at_builtin; refine wpList_append_src rfl _ _ rfl Try.underlying30 hi hz0 hz1 hz2 rfl (by decide) _ _ _ rfl (HS.out.own (i := 0) rfl) Ak nk ck vs rfl hsr2.out hoH.out ?c3 ?c4 ?_)
          case c3 => unfold maxLen; omega
          case c4 => omega
          intro vY wY hownY hgY hatY
          have S5 := Lib.hid (HS.out.own_push (i := 0) rfl (bb _) hownY hgY (by simpa using hatY))
          obtain ⟨aY, cY, rfl⟩ := own_slice hownY
          clear HS hownY hgY hatY hsr2 hoH
          obtain ⟨q, hq⟩ : ∃ q, y + nk = q := ⟨_, rfl⟩
          rw [hq] at S5 hzn hyb ⊢
          clear hq
          go_wp2_with fail
          go_roundw
          case rel => exact ⟨k + 1, q, aY, cY, us ++ vs, by omega, by go_num, rfl, hyb, hzn, hcn2, S5⟩
          case measure => simp [intOf]; omega
        · obtain rfl : k = 2 := by omega
          obtain rfl : y = z := by rw [← hsy.out]; exact hS2.out
          have S5 := HS.out
          rw [← hcy.out, hC2.out] at S5
          replace S5 := Lib.hid S5
          clear HS
          go_wp2_with fail
          go_ret
          exact ⟨B, cc, rfl, S5.out⟩

set_option maxHeartbeats 1000000 in
theorem withoutVar1_any (l v : Int) (hl : LitS l) (b : Nat) (w : World) (c0 : w.cell? ⟨b, 0, none⟩ = some (.int .i64 v)) :
    Calls Try.prog 241 #[.int .i64 l, .pointer (some ⟨b, 0, none⟩)] w fun e w' => e = .returned (.bool (absV l == v)) ∧ Below w.heap.size w w' := by
  obtain ⟨x, hx⟩ : ∃ x, absV l = x := ⟨_, rfl⟩
  have habs := Lib.hid (fun W => abs_at hl.i64 hx W)
  rw [hx]
  have k0 := cell_regrown c0
  clear hx c0
  go_enter Try.func241, Try.ntmps241
  go_wp2_with fail
  refine wp_region_quiet_below (by kernel_rfl) (by kernel_rfl) ?_
  repeat (any_goals (first | go_big_quiet_step ((go_at_call 190; exact Calls.regrown_of (habs.out _)))))
  refine wpQuiet_nil ?_
  rintro w3 ⟨p, rfl⟩
  have hB := Lib.hid (below_regrown w p.d p.os)
  clear k0
  go_wp2_with fail
  go_ret
  exact ⟨rfl, hB.out⟩

set_option maxHeartbeats 1000000 in
theorem withoutVar_any (c : List Int) (A : Option Addr) (cap : Nat) (v : Int) (w : World) (hx : IntsAt w A c) (hc : ∀ l ∈ c, LitS l) (hl : c.length ≤ 1000) :
    Calls Try.prog 184 #[.slice A c.length cap, .int .i64 v] w (OneI w (withoutB c v)) := by
  have eg : Enter1 241 := enters_of Try.func241 (by kernel_rfl) rfl
  have S0 := (Sp.start w).alloc_box #[.int .i64 v] 3
  have hcl := Lib.hid (cloneA_any A cap c _ (hx.grow S0.below) (by omega))
  have hok := Lib.hid hx.ok
  have hcH := Lib.hid hc
  replace S0 := Lib.hid S0
  obtain ⟨zs, hzs⟩ : ∃ zs, withoutB c v = zs := ⟨_, rfl⟩
  rw [hzs]
  unfold withoutB at hzs
  replace hzs := Lib.hid hzs
  clear hx hc
  go_enter Try.func184, Try.ntmps184
  go_wp2_with fail
  refine hcl.out.mono ?_
  rintro e w1 ⟨D, dc, rfl, T⟩
  have S1 : Sp w w1 [Own 3 1 (.slice D c.length dc) c.length (c.map (.int .i64)), Box w.heap.size 3 #[.int .i64 v]] := S0.out.seq T
  have hdel := Lib.hid (deleteFuncI_any (cb := #[.pointer (some ⟨w.heap.size, 0, none⟩)]) (p := fun l => absV l == v) (R := LitS) eg c D dc w w1 _ S1 hok.out (by omega) hcH.out fun x ys W hR SW => withoutVar1_any x v hR w.heap.size W (SW.cell (i := 1) rfl (o := 0) rfl))
  rw [hzs.out] at hdel
  clear S0 S1 T hcl
  go_wp2_with fail
  refine hdel.out.mono ?_
  rintro e w2 ⟨rfl, S8, -⟩
  have S9 := Lib.hid (S8.pick (qs := [Own 3 1 (.slice D zs.length dc) zs.length (zs.map (.int .i64))]) [0] rfl)
  clear S8 hdel
  go_wp2_with fail
  go_ret
  exact ⟨D, dc, rfl, S9.out⟩
end Go.Proofs.Ytmikconjhmhekaa
