/- Lemmas and contracts for a law, put together out of several texts: CoM CoS CoT CoV CoX CoY. -/
import Derived.Test.YtmikconjhmhekaaMg9
import Derived.Test.YtmikconjhmhekaaMg6
import Derived.Test.YtmikconjhmhekaaMg8
/- Contract: the least core of a Cnf, in the reference. -/
namespace Go.Proofs.Ytmikconjhmhekaa
open Go.RowKit

/-- The least core that is told. -/
def leastR (n : Nat) (vars : Int) (xss : List (List Int)) : Option (List Nat) := if goodB vars xss && decide (xss.length ≤ 12) && !(List.range (2 ^ n)).any (modT xss) then leastTo (coreB n xss) xss.length (xss.length + 1) else none
def listR (r : Option (List Nat)) : List Int := match r with
  | some is => ofN is
  | none => []

set_option maxRecDepth 100000 in
set_option maxHeartbeats 8000000 in
theorem specLeast5_any (vars : Int) (v : Value) (xss : List (List Int)) (F : List Nat) (w : World) (hx : (Ty.slice Ty.int).row false w v xss F) :
    Calls Try.prog 29 #[.agg #[.int .i64 vars, v]] w (IAns w (leastR vars.toNat vars xss).isSome (listR (leastR vars.toNat vars xss))) := by
  obtain ⟨A, cap, rfl, hI⟩ := cls_row hx
  have S0 := (Sp.start w).alloc_box #[.int .i64 vars, .slice A xss.length cap] 26
  have hcall := Lib.hid (l2Good_any vars _ xss F _ (Ty.row_below hx S0.below (Ty.row_lt hx)))
  replace S0 := Lib.hid S0
  have c0 := S0.out.cell (i := 0) rfl (o := 0) rfl
  have c1 := S0.out.cell (i := 0) rfl (o := 1) rfl
  clear hx
  cases h1 : goodB vars xss
  · rw [h1] at hcall
    rw [show leastR vars.toNat vars xss = none by unfold leastR; rw [h1]; rfl]
    go_enter Try.func29, Try.ntmps29
    go_wp2_with fail
    refine hcall.out.mono ?_
    rintro e w1 ⟨rfl, hb1⟩
    have hB := Lib.hid (S0.out.grow hb1).below
    clear hcall S0 c0 c1 hb1
    go_wp2_with fail
    go_ret2
    exact ⟨_, _, rfl, ⟨fun j hj => by simp [listR] at hj, fun c hc => by simp [listR] at hc⟩, bal hB.out _⟩
  have hg := good_cnf h1
  rw [h1] at hcall
  by_cases h12 : xss.length ≤ 12
  case neg =>
    rw [show leastR vars.toNat vars xss = none by unfold leastR; rw [h1, decide_eq_false h12]; rfl]
    have d12 : decide ((12 : Int) < (xss.length : Int)) = true := decide_eq_true (by omega)
    clear hg hI
    go_enter Try.func29, Try.ntmps29
    go_wp2_with fail
    refine hcall.out.mono ?_
    rintro e w1 ⟨rfl, hb1⟩
    have S1 := Lib.hid (S0.out.grow hb1)
    clear hcall S0 c0 c1 hb1
    have c1 := S1.out.cell (i := 0) rfl (o := 1) rfl
    have hB := Lib.hid S1.out.below
    clear S1
    go_wp2_with fail
    go_ret2
    exact ⟨_, _, rfl, ⟨fun j hj => by simp [listR] at hj, fun c hc => by simp [listR] at hc⟩, bal hB.out _⟩
  have d12 : decide ((12 : Int) < (xss.length : Int)) = false := decide_eq_false (by omega)
  obtain ⟨n, rfl⟩ := Int.eq_ofNat_of_zero_le hg.1.1
  rw [show (n : Int).toNat = n by omega]
  have hn : n ≤ 12 := by omega
  have hsat := Lib.hid (fun W hb => l5Sat_any n hn xss hg.2.2.2 (by omega) A cap W (hI.grow hb))
  cases hq : (List.range (2 ^ n)).any (modT xss)
  case true =>
    rw [show leastR n n xss = none by unfold leastR; rw [h1, hq, Bool.not_true, Bool.and_false]; rfl]
    rw [hq] at hsat
    clear hg hI
    go_enter Try.func29, Try.ntmps29
    go_wp2_with fail
    refine hcall.out.mono ?_
    rintro e w1 ⟨rfl, hb1⟩
    have S1 := Lib.hid (S0.out.grow hb1)
    clear hcall S0 c0 c1 hb1
    have c0 := S1.out.cell (i := 0) rfl (o := 0) rfl
    have c1 := S1.out.cell (i := 0) rfl (o := 1) rfl
    go_wp2_with fail
    refine (hsat.out _ S1.out.below).mono ?_
    rintro e w2 ⟨rfl, hb2⟩
    have hB := Lib.hid (S1.out.grow hb2).below
    clear hsat S1 c0 c1 hb2
    go_wp2_with fail
    go_ret2
    exact ⟨_, _, rfl, ⟨fun j hj => by simp [listR] at hj, fun c hc => by simp [listR] at hc⟩, bal hB.out _⟩
  case false =>
    rw [show leastR n n xss = leastTo (coreB n xss) xss.length (xss.length + 1) by unfold leastR; rw [h1, hq, decide_eq_true h12]; rfl]
    rw [hq] at hsat
    have hch := Lib.hid (fun k (hk : k ≤ 1000) D dc W (h : Below w.heap.size w W) => l5Choose_any n hn xss hg.2.2.2 hg.2.1 A cap k hk [] D dc W ⟨by simp, by simp⟩ (hI.grow h) (IntsAt.nil _ _))
    simp only [nextA_nil, List.length_nil] at hch
    obtain ⟨P, hP⟩ : ∃ P, coreB n xss = P := ⟨_, rfl⟩
    simp only [hP] at hch ⊢
    have hnx := Lib.hid (fun k h h2 => leastTo_next (P := P) (m := xss.length) (k := k) h h2)
    have hfd := Lib.hid (fun k r (hk : k < xss.length + 1) h h2 => leastTo_found (P := P) (m := xss.length) (k := k) (r := r) hk h h2)
    obtain ⟨R, hR⟩ : ∃ R, leastTo P xss.length (xss.length + 1) = R := ⟨_, rfl⟩
    rw [hR] at hfd ⊢
    have hend : Hid (leastTo P xss.length (xss.length + 1) = none → R = none) := fun h => hR.symm.trans h
    have hto0 : Hid (leastTo P xss.length 0 = none) := rfl
    obtain ⟨m, hm⟩ : ∃ m, xss.length = m := ⟨_, rfl⟩
    rw [hm] at S0 c1 hcall hsat hch hnx hfd hend hto0 d12 h12 ⊢
    clear hg hI hP hR hm hq
    go_enter Try.func29, Try.ntmps29
    go_wp2_with fail
    refine hcall.out.mono ?_
    rintro e w1 ⟨rfl, hb1⟩
    have S1 := Lib.hid (S0.out.grow hb1)
    clear hcall S0 c0 c1 hb1
    have c0 := S1.out.cell (i := 0) rfl (o := 0) rfl
    have c1 := S1.out.cell (i := 0) rfl (o := 1) rfl
    go_wp2_with fail
    refine (hsat.out _ S1.out.below).mono ?_
    rintro e w2 ⟨rfl, hb2⟩
    have S2 := Lib.hid (S1.out.grow hb2)
    clear hsat S1 c0 c1 hb2
    go_wp2_with fail
    go_loopw [4, 5, 6] (fun vi _ _ wr => ∃ k : Nat, k ≤ m + 1 ∧ vi = .int .i64 k ∧ Hid (leastTo P m k = none) ∧ Hid (Sp w wr [Box w.heap.size 26 #[.int .i64 n, .slice A m cap]])) (fun vi _ _ _ => m + 1 - (intOf vi).toNat)
    case atStart => exact ⟨0, Nat.zero_le _, rfl, hto0, S2⟩
    case round =>
      obtain ⟨k, hk, rfl, hto, HS⟩ := hrel
      clear S2 hto0
      have c0 := HS.out.cell (i := 0) rfl (o := 0) rfl
      have c1 := HS.out.cell (i := 0) rfl (o := 1) rfl
      by_cases hlt : k ≤ m
      · have S3 := Lib.hid (HS.out.alloc (.cells #[] 3))
        have hc3 := Lib.hid (hch.out k (by omega) (some ⟨wr.heap.size, 0, none⟩) 0 _ S3.out.below)
        have hnx2 := Lib.hid (fun h2 => hnx.out k hto.out h2)
        have hfd2 := Lib.hid (fun r h2 => hfd.out k r (by omega) hto.out h2)
        obtain ⟨R2, hR2⟩ : ∃ R2, chF P m k [] 0 = R2 := ⟨_, rfl⟩
        simp only [hR2] at hc3 hnx2 hfd2
        clear hR2 HS
        go_wp2_with fail
        refine hc3.out.mono ?_
        rintro e w4 ⟨B, c, out, rfl, ho1, ho2, T⟩
        have S4 := Lib.hid (S3.out.seq T)
        replace ho1 := Lib.hid ho1
        replace ho2 := Lib.hid ho2
        clear hc3 T S3 c0 c1
        cases R2 with
        | none =>
          have hto2 := Lib.hid (hnx2.out rfl)
          have S5 := Lib.hid S4.out.tail
          clear S4 ho1 ho2
          go_wp2_with fail
          go_roundw
          case rel => exact ⟨k + 1, by omega, by go_num, hto2, S5⟩
          case measure => simp [intOf]; omega
        | some r =>
          obtain rfl : R = some r := hfd2.out r rfl
          obtain ⟨G, hr, -, -⟩ := own_row (S4.out.own (i := 0) rfl) ho2.out
          obtain ⟨B', c', e', hT⟩ := ints_row (Ty.row_down hr)
          cases e'
          have hB := Lib.hid S4.out.below
          have hor : Hid (out = ofN r) := ho1.out r rfl
          replace hT := Lib.hid hT
          clear S4 hr
          go_wp2_with fail
          go_ret2
          have hor2 := hor.out
          subst hor2
          exact ⟨B, c, rfl, hT.out, hB.out⟩
      · obtain rfl : k = m + 1 := by omega
        obtain rfl : R = none := hend.out hto.out
        have hB := Lib.hid HS.out.below
        have hlt2 : decide (((m + 1 : Nat) : Int) ≤ (m : Int)) = false := decide_eq_false (by omega)
        clear HS
        go_wp2_with fail
        go_ret2
        exact ⟨_, _, rfl, ⟨fun j hj => by simp [listR] at hj, fun c hc => by simp [listR] at hc⟩, bal hB.out _⟩
end Go.Proofs.Ytmikconjhmhekaa

/- Contract: the least core of a Cnf, in the program. -/
namespace Go.Proofs.Ytmikconjhmhekaa
open Go.RowKit

theorem Sp.rows_put {w0 w : World} {ps : List Asn} {i : Nat} {e : TypeId} {v : Value} {cs : List Value} {xss : List (List Int)} (h : Sp w0 w ps) (hi : ps[i]? = some (Rows Ty.int e v cs xss)) {j k : Nat} {ys : List Int} {z : Int} (hj : xss[j]? = some ys) (hk : ys[k]? = some z) (y : Int) (hy : I64 y) :
    ∃ b off cap, cs[j]? = some (.slice (some ⟨b, off, none⟩) ys.length cap) ∧ w.cell? ⟨b, off + k, none⟩ = some (.int .i64 z) ∧ w.frozen? ⟨b, off + k, none⟩ = false ∧
      Sp w0 (w.setCell ⟨b, off + k, none⟩ (.int .i64 y)) (ps.set i (Rows Ty.int e v cs (xss.set j (ys.set k y)))) := by
  obtain ⟨hjl, rfl⟩ := List.getElem?_eq_some_iff.1 hj
  obtain ⟨hkl, rfl⟩ := List.getElem?_eq_some_iff.1 hk
  exact h.rows_set hi hjl hkl y hy
theorem Sp.rows_row {w0 w : World} {ps : List Asn} {i : Nat} {e : TypeId} {v : Value} {cs : List Value} {xss : List (List Int)} (h : Sp w0 w ps) (hi : ps[i]? = some (Rows Ty.int e v cs xss)) {j : Nat} {ys : List Int} (hj : xss[j]? = some ys) :
    ∃ E c F, cs[j]? = some (.slice E ys.length c) ∧ Ty.int.row false w (.slice E ys.length c) ys F := by
  obtain ⟨hjl, rfl⟩ := List.getElem?_eq_some_iff.1 hj
  obtain ⟨F, ⟨G, -, -, hall, -⟩, -⟩ := h.get hi
  obtain ⟨c, d, e', F1, F2, F3, rfl, rfl, hl, -, ⟨u, rfl, hr⟩, -⟩ := Ty.all_split hall j hjl
  obtain ⟨E, cc, rfl, -, -⟩ := Ty.row_len hr
  have hl2 : c.length = j := by rw [hl]; exact Nat.mul_one j
  exact ⟨E, cc, F2, by subst hl2; simp, Ty.row_down hr⟩
theorem Sp.rows_at {w0 W : World} {ps : List Asn} {i L c j : Nat} {e : TypeId} {B : Option Addr} {cs : List Value} {xss : List (List Int)} {u : Value} (h : Sp w0 W ps) (hi : ps[i]? = some (Rows Ty.int e (.slice B L c) cs xss)) (hl : xss.length = L) (hu : cs[j]? = some u) : ∃ rb, B = some ⟨rb, 0, none⟩ ∧ W.cell? ⟨rb, j, none⟩ = some u := by
  have ho := h.rows hi
  have hjl := (List.getElem?_eq_some_iff.1 hu).1
  have hn : cs.length = xss.length := by have := ho.1; omega
  obtain ⟨g, cap', cur, e1, -, hh, -, -, -, ht⟩ := own_block ho (by omega)
  simp only [Value.slice.injEq] at e1
  obtain ⟨rfl, -, rfl⟩ := e1
  exact ⟨g, rfl, by rw [(own_at hh ht (o := j) (by omega)).1]; exact hu⟩
/-- A list of indices, the first i of them made less by one. -/
def decT (t : List Nat) (i : Nat) : List Int := ofN (t.take i ++ (t.drop i).map (· + 1))
theorem decT_zero (t : List Nat) : decT t 0 = ofN (t.map (· + 1)) := by simp [decT]
theorem decT_all (t : List Nat) : decT t t.length = ofN t := by simp [decT]
theorem decT_len (t : List Nat) (i : Nat) : (decT t i).length = t.length := by unfold decT; rw [ofN_len]; simp; omega
theorem decT_at {t : List Nat} {i : Nat} (h : i < t.length) : (decT t i)[i]? = some ((t[i] : Int) + 1) := by
  unfold decT ofN
  rw [List.getElem?_map, List.getElem?_append_right (by simp; omega), List.length_take, Nat.min_eq_left (by omega), Nat.sub_self, List.getElem?_map, List.getElem?_drop]
  simp [h]
theorem decT_set {t : List Nat} {i : Nat} (h : i < t.length) : (decT t i).set i (t[i] : Int) = decT t (i + 1) := by
  apply List.ext_getElem?
  intro q
  rw [List.getElem?_set]
  unfold decT ofN
  by_cases hq : i = q
  · subst hq
    rw [if_pos rfl, if_pos (by simp; omega), List.getElem?_map, List.getElem?_append_left (by simp; omega), List.getElem?_take, if_pos (by omega), List.getElem?_eq_getElem h]
    rfl
  · rw [if_neg hq, List.getElem?_map, List.getElem?_map]
    congr 1
    by_cases hlt : q < i
    · rw [List.getElem?_append_left (by simp; omega), List.getElem?_append_left (by simp; omega), List.getElem?_take, List.getElem?_take, if_pos hlt, if_pos (by omega)]
    · by_cases hqt : q < t.length
      · rw [List.getElem?_append_right (by simp; omega), List.getElem?_append_right (by simp; omega), List.length_take, List.length_take, Nat.min_eq_left (by omega), Nat.min_eq_left (by omega), List.getElem?_map, List.getElem?_map, List.getElem?_drop, List.getElem?_drop]
        congr 2
        omega
      · rw [List.getElem?_eq_none (by simp; omega), List.getElem?_eq_none (by simp; omega)]
theorem find_next {P : List Nat → Bool} {cb : List (List Nat)} {j : Nat} (hj : j < cb.length) (h : (cb.take j).find? P = none) (h2 : P cb[j] = false) : (cb.take (j + 1)).find? P = none := by
  rw [List.take_succ_eq_append_getElem hj, List.find?_append, h]
  simp [h2]
theorem find_here {P : List Nat → Bool} {cb : List (List Nat)} {j : Nat} (hj : j < cb.length) (h : (cb.take j).find? P = none) (h2 : P cb[j] = true) : cb.find? P = some cb[j] := by
  conv => lhs; rw [← List.take_append_drop j cb]
  rw [List.find?_append, h, Option.none_or, List.drop_eq_getElem_cons hj, List.find?_cons, h2]
theorem chF_find (P : List Nat → Bool) (m k : Nat) : chF P m k [] 0 = (combs m k 0).find? P := by
  rw [chF_combs]
  congr 1
  exact List.map_id _

set_option maxRecDepth 100000 in
set_option maxHeartbeats 8000000 in
theorem implLeast5_any (vars : Int) (v : Value) (xss : List (List Int)) (F : List Nat) (w : World) (hx : (Ty.slice Ty.int).row false w v xss F) :
    Calls Try.prog 28 #[.agg #[.int .i64 vars, v]] w (IAnsC w (leastR vars.toNat vars xss).isSome (listR (leastR vars.toNat vars xss))) := by
  obtain ⟨A, cap, rfl, hI⟩ := cls_row hx
  have S0 := (Sp.start w).alloc_box #[.int .i64 vars, .slice A xss.length cap] 26
  have hcall := Lib.hid (implIsCnf_any vars _ xss F _ (Ty.row_below hx S0.below (Ty.row_lt hx)))
  replace S0 := Lib.hid S0
  have c0 := S0.out.cell (i := 0) rfl (o := 0) rfl
  have c1 := S0.out.cell (i := 0) rfl (o := 1) rfl
  clear hx
  cases h1 : goodB vars xss
  · rw [h1] at hcall
    rw [show leastR vars.toNat vars xss = none by unfold leastR; rw [h1]; rfl]
    go_enter Try.func28, Try.ntmps28
    go_wp2_with fail
    refine hcall.out.mono ?_
    rintro e w1 ⟨rfl, hb1⟩
    have hB := Lib.hid (S0.out.grow hb1).below
    clear hcall S0 c0 c1 hb1
    go_wp2_with fail
    go_ret2
    exact ⟨none, 0, rfl, ⟨fun j hj => by simp [listR] at hj, fun c hc => by simp [listR] at hc⟩, by simp [listR], hB.out⟩
  have hg := good_cnf h1
  rw [h1] at hcall
  by_cases h12 : xss.length ≤ 12
  case neg =>
    rw [show leastR vars.toNat vars xss = none by unfold leastR; rw [h1, decide_eq_false h12]; rfl]
    have d12 : decide ((12 : Int) < (xss.length : Int)) = true := decide_eq_true (by omega)
    clear hg hI
    go_enter Try.func28, Try.ntmps28
    go_wp2_with fail
    refine hcall.out.mono ?_
    rintro e w1 ⟨rfl, hb1⟩
    have S1 := Lib.hid (S0.out.grow hb1)
    clear hcall S0 c0 c1 hb1
    have c1 := S1.out.cell (i := 0) rfl (o := 1) rfl
    have hB := Lib.hid S1.out.below
    clear S1
    go_wp2_with fail
    go_ret2
    exact ⟨none, 0, rfl, ⟨fun j hj => by simp [listR] at hj, fun c hc => by simp [listR] at hc⟩, by simp [listR], hB.out⟩
  have d12 : decide ((12 : Int) < (xss.length : Int)) = false := decide_eq_false (by omega)
  obtain ⟨n, rfl⟩ := Int.eq_ofNat_of_zero_le hg.1.1
  rw [show (n : Int).toNat = n by omega]
  have hn : n ≤ 12 := by omega
  have hsat := Lib.hid (fun W hb => satisfiable_any n hn xss hg.2.2.2 (by omega) A cap W (hI.grow hb))
  cases hq : (List.range (2 ^ n)).any (modT xss)
  case true =>
    rw [show leastR n n xss = none by unfold leastR; rw [h1, hq, Bool.not_true, Bool.and_false]; rfl]
    rw [hq] at hsat
    clear hg hI
    go_enter Try.func28, Try.ntmps28
    go_wp2_with fail
    refine hcall.out.mono ?_
    rintro e w1 ⟨rfl, hb1⟩
    have S1 := Lib.hid (S0.out.grow hb1)
    clear hcall S0 c0 c1 hb1
    have c0 := S1.out.cell (i := 0) rfl (o := 0) rfl
    have c1 := S1.out.cell (i := 0) rfl (o := 1) rfl
    go_wp2_with fail
    refine (hsat.out _ S1.out.below).mono ?_
    rintro e w2 ⟨rfl, hb2⟩
    have hB := Lib.hid (S1.out.grow hb2).below
    clear hsat S1 c0 c1 hb2
    go_wp2_with fail
    go_ret2
    exact ⟨none, 0, rfl, ⟨fun j hj => by simp [listR] at hj, fun c hc => by simp [listR] at hc⟩, by simp [listR], hB.out⟩
  case false =>
    rw [show leastR n n xss = leastTo (coreB n xss) xss.length (xss.length + 1) by unfold leastR; rw [h1, hq, decide_eq_true h12]; rfl]
    rw [hq] at hsat
    have hcho := Lib.hid (fun k (hk : k ≤ xss.length) W => choices_any xss.length k (2 ^ xss.length) (by omega) (by omega) (Nat.le_trans (Nat.pow_le_pow_right (by decide) h12) (by decide)) (by rw [goL_up, List.length_map]; exact combs_len _ _ _) W)
    have hic := Lib.hid (fun is (hi : AscN xss.length is) D dc W (h : Below w.heap.size w W) (hy : IntsAt W D (ofN is)) => isCore_any n hn xss hg.2.2.2 is hi.2 (by have := asc_len hi; omega) A D cap dc W (hI.grow h) hy)
    obtain ⟨P, hP⟩ : ∃ P, coreB n xss = P := ⟨_, rfl⟩
    simp only [hP] at hic ⊢
    have hnx := Lib.hid (fun k h h2 => leastTo_next (P := P) (m := xss.length) (k := k) h h2)
    have hfd := Lib.hid (fun k r (hk : k < xss.length + 1) h h2 => leastTo_found (P := P) (m := xss.length) (k := k) (r := r) hk h h2)
    obtain ⟨R, hR⟩ : ∃ R, leastTo P xss.length (xss.length + 1) = R := ⟨_, rfl⟩
    rw [hR] at hfd ⊢
    have hend : Hid (leastTo P xss.length (xss.length + 1) = none → R = none) := fun h => hR.symm.trans h
    have hto0 : Hid (leastTo P xss.length 0 = none) := rfl
    obtain ⟨m, hm⟩ : ∃ m, xss.length = m := ⟨_, rfl⟩
    rw [hm] at S0 c1 hcall hsat hic hnx hfd hend hto0 d12 h12 ⊢
    rw [hm] at hcho
    obtain ⟨hsh, hp⟩ := pow12 h12
    clear hg hI hP hR hm hq
    go_enter Try.func28, Try.ntmps28
    go_wp2_with fail
    refine hcall.out.mono ?_
    rintro e w1 ⟨rfl, hb1⟩
    have S1 := Lib.hid (S0.out.grow hb1)
    clear hcall S0 c0 c1 hb1
    have c0 := S1.out.cell (i := 0) rfl (o := 0) rfl
    have c1 := S1.out.cell (i := 0) rfl (o := 1) rfl
    go_wp2_with fail
    refine (hsat.out _ S1.out.below).mono ?_
    rintro e w2 ⟨rfl, hb2⟩
    have S2 := Lib.hid (S1.out.grow hb2)
    clear hsat S1 c0 c1 hb2
    obtain ⟨N, hN⟩ : ∃ N, 2 ^ m = N := ⟨_, rfl⟩
    rw [hN] at hsh hp hcho
    replace hN := Lib.hid hN
    go_wp2_with fail
    go_loopw [5, 7, 8] (fun vi _ _ wr => ∃ k : Nat, k ≤ m + 1 ∧ vi = .int .i64 k ∧ Hid (leastTo P m k = none) ∧ Hid (Sp w wr [Box w.heap.size 26 #[.int .i64 n, .slice A m cap]])) (fun vi _ _ _ => m + 1 - (intOf vi).toNat)
    case atStart => exact ⟨0, Nat.zero_le _, rfl, hto0, S2⟩
    case round =>
      obtain ⟨k, hk, rfl, hto, HS⟩ := hrel
      clear S2 hto0
      by_cases hlt : k ≤ m
      · have hc3 := Lib.hid (hcho.out k hlt wr)
        have hnx2 := Lib.hid (fun h2 => hnx.out k hto.out h2)
        have hfd2 := Lib.hid (fun r h2 => hfd.out k r (by omega) hto.out h2)
        obtain ⟨GL, hGL⟩ : ∃ GL, goL (m + 1) [] k 1 = GL := ⟨_, rfl⟩
        rw [hGL] at hc3
        rw [goL_up] at hGL
        replace hGL := Lib.hid hGL
        go_wp2_with fail
        rw [hsh]
        refine hc3.out.mono ?_
        rintro e w4 ⟨B, c, cs, rfl, T⟩
        have S4 := Lib.hid (HS.out.seq T)
        clear hc3 T HS
        rw [chF_find] at hnx2 hfd2
        have hcba := Lib.hid (combs_asc (m := m) k 0)
        obtain ⟨cb, hcb⟩ : ∃ cb, combs m k 0 = cb := ⟨_, rfl⟩
        rw [hcb] at hnx2 hfd2 hcba
        have hGL2 := hGL.out
        rw [hcb] at hGL2
        obtain ⟨L, hL⟩ : ∃ L, GL.length = L := ⟨_, rfl⟩
        have hLc : cb.length = L := by rw [← hL, ← hGL2, List.length_map]
        have hLN : L ≤ 4096 := by
          have := combs_len m k 0
          rw [hcb, hLc, Nat.sub_zero] at this
          exact Nat.le_trans this (Nat.le_trans (Nat.pow_le_pow_right (by decide) h12) (by decide))
        rw [hL] at S4 ⊢
        have hGat : Hid (∀ j (hj : j < cb.length), GL[j]? = some (decT cb[j] 0)) := fun j hj => by
          rw [← hGL2, List.getElem?_map, List.getElem?_eq_getElem hj, decT_zero]; rfl
        have hasc : Hid (∀ j (hj : j < cb.length), AscN m cb[j]) := fun j hj => by
          have := hcba.out _ (List.getElem_mem hj)
          exact ⟨this.1, fun i hi => (this.2.1 i hi).2⟩
        have hf0 : Hid ((cb.take 0).find? P = none) := rfl
        have hL0 := Lib.hid hL
        replace hnx2 := Lib.hid hnx2.out
        replace hfd2 := Lib.hid hfd2.out
        replace hLc := Lib.hid hLc
        clear hcb hGL hGL2 hcba hL hto hnx hfd hcho
        go_wp2_with fail
        go_loopw [7, 8, 37] (fun _ _ vi wr => ∃ (j : Nat) (yss : List (List Int)), j ≤ L ∧ vi = .int .i64 j ∧ Hid (yss.length = L) ∧ Hid (∀ i, j ≤ i → yss[i]? = GL[i]?) ∧ Hid ((cb.take j).find? P = none) ∧ Hid (Sp w wr [Rows Ty.int 30 (.slice B L c) cs yss, Box w.heap.size 26 #[.int .i64 n, .slice A m cap]])) (fun _ _ vi _ => L - (intOf vi).toNat)
        case atStart => exact ⟨0, GL, Nat.zero_le _, rfl, hL0, (fun _ _ => rfl), hf0, S4⟩
        case round =>
          obtain ⟨j, yss, hj, rfl, hyl, hyy, hfj, HS⟩ := hrel
          clear S4 hf0 hL0
          by_cases hlt2 : j < L
          · have hjc : j < cb.length := by rw [hLc.out]; exact hlt2
            have hrow := (hyy.out j (Nat.le_refl _)).trans (hGat.out j hjc)
            have hta := hasc.out j hjc
            have hfn := Lib.hid (fun h2 => find_next hjc hfj.out h2)
            have hfh := Lib.hid (fun h2 => (find_here hjc hfj.out h2))
            obtain ⟨t, ht⟩ : ∃ t, cb[j] = t := ⟨_, rfl⟩
            rw [ht] at hrow hta hfn hfh
            obtain ⟨E, ec, Fr, hcsj, -⟩ := HS.out.rows_row (i := 0) rfl hrow
            rw [decT_len] at hcsj
            obtain ⟨rb, rfl, n0⟩ := HS.out.rows_at (i := 0) rfl hyl.out hcsj
            obtain ⟨tl, htl⟩ : ∃ tl, t.length = tl := ⟨_, rfl⟩
            have htm : tl ≤ 12 := by have := asc_len hta; omega
            rw [htl] at hcsj n0
            have S5 : Hid (Sp w wr [Rows Ty.int 30 (.slice (some ⟨rb, 0, none⟩) L c) cs (yss.set j (decT t 0)), Box w.heap.size 26 #[.int .i64 n, .slice A m cap]]) := by
              unfold Hid; rw [set_get hrow]; exact HS.out
            have hjy : Hid (∀ i, (yss.set j (decT t i))[j]? = some (decT t i)) := fun i => by
              rw [List.getElem?_set_self (by rw [hyl.out]; exact hlt2)]
            have hyl2 : Hid (∀ i, (yss.set j (decT t i)).length = L) := fun i => by rw [List.length_set]; exact hyl.out
            have hyy2 : Hid (∀ i q, j + 1 ≤ q → (yss.set j (decT t i))[q]? = GL[q]?) := fun i q hq => by
              rw [List.getElem?_set_ne (by omega)]; exact hyy.out q (by omega)
            have htI : Hid (∀ i (h : i < tl), (0 : Int) ≤ (t[i]'(by rw [htl]; exact h) : Int) ∧ (t[i]'(by rw [htl]; exact h) : Int) ≤ 12) := fun i h => by
              have := hta.2 _ (List.getElem_mem (by rw [htl]; exact h)); omega
            replace hta := Lib.hid hta
            replace htl := Lib.hid htl
            replace hcsj := Lib.hid hcsj
            clear HS hrow hyy hyl ht hfj
            go_wp2_with fail
            clear n0
            go_loopw [8, 43] (fun _ vi wr => ∃ i : Nat, i ≤ tl ∧ vi = .int .i64 i ∧ Hid (Sp w wr [Rows Ty.int 30 (.slice (some ⟨rb, 0, none⟩) L c) cs (yss.set j (decT t i)), Box w.heap.size 26 #[.int .i64 n, .slice A m cap]])) (fun _ vi _ => tl - (intOf vi).toNat)
            case atStart => exact ⟨0, Nat.zero_le _, rfl, S5⟩
            case round =>
              obtain ⟨i, hi, rfl, HS⟩ := hrel
              clear S5
              by_cases hlt3 : i < tl
              · have hit : i < t.length := by rw [htl.out]; exact hlt3
                have hb := htI.out i hlt3
                have hset := decT_set hit
                obtain ⟨b, off, cap2, hcs2, m0, f0, S6⟩ := HS.out.rows_put (i := 0) (k := i) rfl (hjy.out i) (decT_at hit) ((t[i]) : Int) (by unfold I64; omega)
                rw [decT_len, htl.out, hcsj.out] at hcs2
                simp only [Option.some.injEq, Value.slice.injEq] at hcs2
                obtain ⟨rfl, -, rfl⟩ := hcs2
                rw [hset, List.set_set] at S6
                generalize (t[i] : Int) = y at *
                have hw1 : IntKind.i64.wrap (y + 1 - 1) = y := by rw [IntWalk.i64_in _ (by omega)]; omega
                replace S6 := Lib.hid S6
                clear HS hset
                go_wp2_with fail
                go_roundw
                case rel => exact ⟨i + 1, by omega, by go_num, S6⟩
                case measure => simp [intOf]; omega
              · obtain rfl : i = tl := by omega
                obtain ⟨E2, ec2, F2, hcs2, hr2⟩ := HS.out.rows_row (i := 0) rfl (hjy.out i)
                rw [decT_len, htl.out, hcsj.out] at hcs2
                simp only [Option.some.injEq, Value.slice.injEq] at hcs2
                obtain ⟨rfl, -, rfl⟩ := hcs2
                have hall := decT_all t
                rw [htl.out] at hall
                rw [hall] at hr2
                obtain ⟨_, _, e4, hdc, -⟩ := Ty.row_len hr2
                rw [ofN_len, htl.out] at e4 hdc
                simp only [Value.slice.injEq] at e4
                obtain ⟨rfl, -, rfl⟩ := e4
                replace hdc := Lib.hid hdc
                obtain ⟨E3, ec3, e3, hT⟩ := ints_row hr2
                rw [ofN_len, htl.out] at e3
                simp only [Value.slice.injEq] at e3
                obtain ⟨rfl, -, rfl⟩ := e3
                have hcc := hic.out t hta.out E ec _ HS.out.below hT
                rw [htl.out] at hcc
                obtain ⟨q, hq⟩ : ∃ q, P t = q := ⟨_, rfl⟩
                rw [hq] at hcc
                replace hcc := Lib.hid hcc
                replace hq := Lib.hid hq
                replace hT := Lib.hid hT
                have c0 := HS.out.cell (i := 1) rfl (o := 0) rfl
                have c1 := HS.out.cell (i := 1) rfl (o := 1) rfl
                clear hr2 hall
                go_wp2_with fail
                refine hcc.out.mono ?_
                rintro e w6 ⟨rfl, hb6⟩
                have S6 := Lib.hid (HS.out.grow hb6)
                have hT6 := Lib.hid (hT.out.grow hb6)
                clear hcc HS hb6 hT c0 c1
                cases q
                · have hf2 := Lib.hid (hfn.out hq.out)
                  have hy3 := Lib.hid (hyl2.out i)
                  have hy4 := Lib.hid (hyy2.out i)
                  go_wp2_with fail
                  go_roundw
                  case rel => exact ⟨j + 1, _, by omega, by go_num, hy3, hy4, hf2, S6⟩
                  case measure => simp [intOf]; omega
                · obtain rfl : R = some t := hfd2.out t (hfh.out hq.out)
                  have hB := Lib.hid S6.out.below
                  clear S6
                  go_wp2_with fail
                  go_ret2
                  exact ⟨E, ec, by simp only [listR, ofN_len, htl.out]; rfl, hT6.out, by simp only [listR, ofN_len, htl.out]; exact hdc.out, hB.out⟩
          · obtain rfl : j = L := by omega
            have hfA := hfj.out
            rw [← hLc.out, List.take_length] at hfA
            have hto2 := Lib.hid (hnx2.out hfA)
            have S6 := Lib.hid HS.out.tail
            clear HS
            go_wp2_with fail
            go_roundw
            case rel => exact ⟨k + 1, by omega, by go_num, hto2, S6⟩
            case measure => simp [intOf]; omega
      · obtain rfl : k = m + 1 := by omega
        obtain rfl : R = none := hend.out hto.out
        have hB := Lib.hid HS.out.below
        have hlt2 : decide (((m + 1 : Nat) : Int) ≤ (m : Int)) = false := decide_eq_false (by omega)
        clear HS
        go_wp2_with fail
        go_ret2
        exact ⟨none, 0, rfl, ⟨fun j hj => by simp [listR] at hj, fun c hc => by simp [listR] at hc⟩, by simp [listR], hB.out⟩
end Go.Proofs.Ytmikconjhmhekaa

/- Plain facts on cores: what the law of cores asks. -/
namespace Go.Proofs.Ytmikconjhmhekaa
open Go.RowKit

theorem chF_some {P : List Nat → Bool} {m k : Nat} {r : List Nat} (h : chF P m k [] 0 = some r) : P r = true ∧ AscN m r ∧ r.length = k := by
  rw [chF_find] at h
  have h1 := List.find?_some h
  have h2 := combs_asc (m := m) k 0 r (List.mem_of_find?_eq_some h)
  exact ⟨h1, ⟨h2.1, fun i hi => (h2.2.1 i hi).2⟩, h2.2.2⟩
theorem chF_none {P : List Nat → Bool} {m k : Nat} (h : chF P m k [] 0 = none) {l : List Nat} (ha : AscN m l) (hl : l.length = k) : P l = false := by
  rw [chF_find, List.find?_eq_none] at h
  subst hl
  have := h l (asc_combs l 0 ha.1 fun i hi => ⟨Nat.zero_le _, ha.2 i hi⟩)
  simpa using this
theorem leastTo_none {P : List Nat → Bool} {m : Nat} : ∀ {N : Nat}, leastTo P m N = none → ∀ k, k < N → chF P m k [] 0 = none
  | 0, _, k, hk => by omega
  | N + 1, h, k, hk => by
    unfold leastTo at h
    rw [List.findSome?_eq_none_iff] at h
    exact h k (List.mem_range.2 hk)
theorem leastTo_some {P : List Nat → Bool} {m : Nat} : ∀ {N : Nat} {r : List Nat}, leastTo P m N = some r → ∃ k, k < N ∧ chF P m k [] 0 = some r ∧ leastTo P m k = none
  | 0, r, h => by simp [leastTo] at h
  | N + 1, r, h => by
    cases hn : leastTo P m N with
    | some r' =>
      obtain ⟨k, h1, h2, h3⟩ := leastTo_some hn
      have := leastTo_found (N := N + 1) (by omega : k < N + 1) h3 h2
      rw [h] at this
      cases this
      exact ⟨k, by omega, h2, h3⟩
    | none =>
      refine ⟨N, by omega, ?_, hn⟩
      unfold leastTo at h hn
      rw [List.range_succ, List.findSome?_append, hn] at h
      simpa using h
/-- The least core: a core, and none is shorter. -/
theorem least_min {P : List Nat → Bool} {m N : Nat} {r : List Nat} (h : leastTo P m N = some r) : P r = true ∧ AscN m r ∧ ∀ l, AscN m l → P l = true → r.length ≤ l.length := by
  obtain ⟨k, hk, h1, h2⟩ := leastTo_some h
  obtain ⟨a1, a2, a3⟩ := chF_some h1
  refine ⟨a1, a2, fun l hl hp => ?_⟩
  rcases Nat.lt_or_ge l.length r.length with hlt | hge
  · have := chF_none (leastTo_none h2 l.length (by omega)) hl rfl
    rw [this] at hp
    cases hp
  · exact hge
theorem erase_len {is : List Nat} {k : Nat} (hk : k < is.length) : (is.eraseIdx k).length + 1 = is.length := by
  rw [List.length_eraseIdx_of_lt hk]; omega
theorem least_minB {n m N : Nat} {xss : List (List Int)} {r : List Nat} (h : leastTo (coreB n xss) m N = some r) : minB n xss r = true := by
  obtain ⟨-, h2, h3⟩ := least_min h
  unfold minB
  rw [List.all_eq_true]
  intro k hk
  have hk2 := List.mem_range.1 hk
  cases hc : coreB n xss (r.eraseIdx k)
  · rfl
  · have := h3 _ (h2.erase k) hc
    have := erase_len hk2
    omega
theorem coreL_core {n : Nat} {xss : List (List Int)} (h : coreB n xss (List.range xss.length) = true) : coreB n xss (coreL n xss) = true := coreGo_core _ _ h
theorem coreL_asc (n : Nat) (xss : List (List Int)) : AscN xss.length (coreL n xss) := (range_asc _).sub (coreGo_sub (coreB n xss) (List.range xss.length) [])
theorem coreL_min (n : Nat) (xss : List (List Int)) : minB n xss (coreL n xss) = true := by
  unfold minB
  rw [List.all_eq_true]
  intro k hk
  have := coreGo_min (P := coreB n xss) (fun a b h ha => core_mono h ha) (List.range xss.length) [] (fun j hj => by simp at hj) k (List.mem_range.1 hk)
  unfold coreL
  rw [this]; rfl
theorem ris_of_asc {m : Nat} {is : List Nat} (h : AscN m is) : risB m (ofN is) = true := by
  unfold risB rOkTo
  rw [List.all_eq_true]
  intro i hi
  have hil : i < (ofN is).length := List.mem_range.1 hi
  have hi2 : i < is.length := by rwa [ofN_len] at hil
  have hb := h.2 _ (List.getElem_mem hi2)
  have hin : inB (ofN is)[i] 0 ((m : Int) - 1) = true := by
    rw [ofN_get hi2, inB_true]; omega
  cases i with
  | zero => rw [rOk_zero _ _ hil]; exact hin
  | succ i =>
    rw [rOk_succ _ _ _ hil, hin, Bool.true_and, ofN_get hi2, ofN_get (by omega)]
    have := List.pairwise_iff_getElem.1 h.1 i (i + 1) (by omega) hi2 (by omega)
    exact decide_eq_true (by omega)
end Go.Proofs.Ytmikconjhmhekaa

/- Contract: the drawn indices of a core. -/
namespace Go.Proofs.Ytmikconjhmhekaa
open Go.RowKit

theorem CS.pick {w0 w : World} {g cl cc A : Nat} {ca : Option Addr} {ps qs : List Asn} (is : List Nat) (h : CS w0 g ca cl cc A w ps) (hq : pickQ is ps = some qs) : CS w0 g ca cl cc A w qs := by
  obtain ⟨h0, h1, h2, F, h3, h4⟩ := h
  obtain ⟨F', h5, h6⟩ := sep_pick h3 hq
  exact ⟨h0, h1, h2, F', h5, fun b hb => h4 b (h6 b hb)⟩
def OkI (d : List Int) : Prop := ∀ x ∈ d, I64 x
theorem OkI.nil : OkI [] := fun x hx => by simp at hx
theorem OkI.snoc {d : List Int} {x : Int} (h : OkI d) (hx : I64 x) : OkI (d ++ [x]) := fun y hy => by
  rcases List.mem_append.1 hy with hy | hy
  · exact h y hy
  · obtain rfl : y = x := by simpa using hy
    exact hx
theorem OkI.erase {d : List Int} (h : OkI d) (k : Nat) : OkI (d.eraseIdx k) := fun y hy => h y (List.mem_of_mem_eraseIdx hy)

set_option maxRecDepth 100000 in
set_option maxHeartbeats 16000000 in
theorem indices5_any (vars : Int) (B : Option Addr) (cap : Nat) (xss : List (List Int)) (F : List Nat) (A g : Nat) (ca : Option Addr) (cl cc : Nat) (w : World) (h : CurIs A g ca cl cc w) (hA : A ≤ 40000000)
    (hx : (Ty.slice Ty.int).row false w (.slice B xss.length cap) xss F) (hn : xss.length ≤ 80) :
    Calls Try.prog 209 #[.pointer (some ⟨g, 0, none⟩), .agg #[.int .i64 vars, .slice B xss.length cap]] w (RowPost 100 OkI (A + 1000) g ca cl cc w) := by
  obtain ⟨i0, hi0, hy0, hy1, hy2⟩ := info_parts infoInt
  have hg := h.lt
  have S0 := ((CS.start h).alloc_box #[.int .i64 vars, .slice B xss.length cap] 26).own_made 3 1
  simp only [World.size_alloc] at S0
  have hcore := Lib.hid (specCoreOf_own vars _ xss F _ (Ty.row_below hx (bal (bal (bb w) (.cells #[.int .i64 vars, .slice B xss.length cap] 26)) (.cells #[] 3)) (Ty.row_lt hx)))
  have hz : (if coreOk vars.toNat vars xss then ofN (coreL vars.toNat xss) else []).length ≤ 80 ∧ OkI (if coreOk vars.toNat vars xss then ofN (coreL vars.toNat xss) else []) := by
    split
    · exact ⟨by rw [ofN_len]; have := asc_len (coreL_asc vars.toNat xss); omega, ofN_ok (by omega) (coreL_asc vars.toNat xss)⟩
    · exact ⟨by simp, OkI.nil⟩
  generalize (if coreOk vars.toNat vars xss then ofN (coreL vars.toNat xss) else []) = zs at hcore hz
  generalize coreOk vars.toNat vars xss = ok at hcore
  obtain ⟨hzl, hzo⟩ := hz
  replace hzo := Lib.hid hzo
  clear hx h
  obtain ⟨m, hm⟩ : ∃ m, xss.length = m := ⟨_, rfl⟩
  rw [hm] at S0 hcore hn ⊢
  clear hm
  have d0 := S0.cell (i := 1) rfl (o := 0) rfl
  have d1 := S0.cell (i := 1) rfl (o := 1) rfl
  replace S0 := Lib.hid S0
  go_enter Try.func209, Try.ntmps209
  go_wp2_with fail
  refine hcore.out.mono ?_
  rintro e w1 ⟨E, ec, rfl, -, hb1, hown1⟩
  have S1 := Lib.hid (S0.out.grow hb1)
  have hb : Hid (ok = true → CS w g ca cl cc A w1 [Own 3 1 (.slice E zs.length ec) zs.length (zs.map (.int .i64)), Own 3 1 (.slice (some ⟨w.heap.size + 1, 0, none⟩) 0 0) 0 [], Box w.heap.size 26 #[.int .i64 vars, .slice B m cap]]) := fun h => S0.out.seq (hown1 h)
  clear S0 hcore hb1 hown1 d0 d1
  go_upto_region 3 with fail
  go_cut [19] (fun s wx => ∃ b : Bool, s = .bool b ∧ Hid (CS w g ca cl cc (A + 2) wx [Own 3 1 (.slice (some ⟨w.heap.size + 1, 0, none⟩) 0 0) 0 [], Box w.heap.size 26 #[.int .i64 vars, .slice B m cap]]) ∧
    Hid (b = true → CS w g ca cl cc (A + 2) wx [Own 3 1 (.slice E zs.length ec) zs.length (zs.map (.int .i64)), Own 3 1 (.slice (some ⟨w.heap.size + 1, 0, none⟩) 0 0) 0 [], Box w.heap.size 26 #[.int .i64 vars, .slice B m cap]]))
  case first =>
    cases ok
    · go_wp2_with fail
      go_meet
      exact ⟨false, rfl, S1.out.mono (by omega), fun h => by cases h⟩
    · have SB := Lib.hid (hb.out rfl)
      clear hb S1
      go_wp2_with fail
      refine (cur_one 2 _ g ca cl cc _ SB.out.cur (by omega) (by omega)).mono ?_
      rintro e w2 ⟨_, ⟨q, rfl⟩, rfl, hi2, hc2⟩
      have S2 := Lib.hid (SB.out.turn hi2 hc2)
      clear SB hi2 hc2
      go_wp2_with fail
      go_meet
      exact ⟨q, rfl, S2.out.tail, fun _ => S2.out⟩
  case rest =>
  clear S1 hb
  obtain ⟨b, rfl, HS, HB⟩ := hcut
  go_upto_if 19 with fail
  go_cut [5] (fun s wx => ∃ (D : Option Addr) (dc : Nat) (d : List Int), s = .slice D d.length dc ∧ d.length ≤ 80 ∧ Hid (OkI d) ∧ Hid (CS w g ca cl cc (A + 500) wx [Own 3 1 (.slice D d.length dc) d.length (d.map (.int .i64)), Box w.heap.size 26 #[.int .i64 vars, .slice B m cap]]))
  case first =>
    cases b
    · as_aux_lemma =>
        clear HB
        go_wp2_with fail
        go_loopw [5, 8] (fun v5 v8 wr => ∃ (i : Nat) (d : List Int) (D : Option Addr) (dc : Nat), i ≤ m ∧ d.length ≤ i ∧ v8 = .int .i64 i ∧ v5 = .slice D d.length dc ∧ Hid (OkI d) ∧ Hid (CS w g ca cl cc (A + 4 + 2 * i) wr [Own 3 1 (.slice D d.length dc) d.length (d.map (.int .i64)), Box w.heap.size 26 #[.int .i64 vars, .slice B m cap]])) (fun _ v8 _ => 100 - (intOf v8).toNat)
        case atStart => exact ⟨0, [], _, _, by omega, by simp, rfl, rfl, OkI.nil, HS.out.mono (by omega)⟩
        case round =>
          clear HS
          obtain ⟨i, d, D, dc, him, hdi, rfl, rfl, HO, HS⟩ := hrel
          have d1 := HS.out.cell (i := 1) rfl (o := 1) rfl
          by_cases hlt : i < m
          · go_wp2_with fail
            refine (cur_one 4 _ g ca cl cc _ HS.out.cur (by omega) (by omega)).mono ?_
            rintro e w2 ⟨_, ⟨q, rfl⟩, rfl, hi2, hc2⟩
            have S2 := Lib.hid (HS.out.turn hi2 hc2)
            clear HS hi2 hc2 d1
            cases q
            · have S3 := S2.out.alloc_box #[.int .i64 (i : Int)] 3
              have kB := S3.cell (i := 0) rfl (o := 0) rfl
              replace S3 := Lib.hid S3
              clear S2
              go_wp2_with (at_builtin; refine wpList_append_src rfl _ _ rfl Try.underlying30 hi0 hy0 hy1 hy2 rfl (by decide) _ _ _ rfl (S3.out.own (i := 1) rfl) _ 1 1 [.int .i64 (i : Int)] rfl (Src.one kB) (by simp [Value.oneCell']) ?c3 ?c4 ?_)
              case c3 => unfold maxLen; omega
              case c4 => omega
              intro vY wY hownY hgY hatY
              have S4 := (S3.out.own_push (i := 1) rfl (bb _) hownY hgY (by simpa using hatY)).tail
              obtain ⟨aY, cY, rfl⟩ := own_slice hownY
              have hlen : d.length + 1 = (d ++ [(i : Int)]).length := by simp
              have S5 : Hid (CS w g ca cl cc (A + 4 + 2 * (i + 1)) wY [Own 3 1 (.slice aY (d ++ [(i : Int)]).length cY) (d ++ [(i : Int)]).length ((d ++ [(i : Int)]).map (.int .i64)), Box w.heap.size 26 #[.int .i64 vars, .slice B m cap]]) := by
                unfold Hid; rw [← hlen, List.map_append]; exact S4.mono (by omega)
              have HO2 : Hid (OkI (d ++ [(i : Int)])) := HO.out.snoc (by unfold I64; omega)
              clear S3 S4 kB hownY hgY hatY HO
              rw [hlen]
              have hdi2 : (d ++ [(i : Int)]).length ≤ i + 1 := by simp; omega
              clear hdi
              replace hlen := Lib.hid hlen
              generalize d ++ [(i : Int)] = d2 at *
              go_wp2_with fail
              go_roundw
              case rel => exact ⟨i + 1, d2, aY, cY, by omega, hdi2, by go_num, rfl, HO2, S5⟩
              case measure => simp [intOf]; omega
            · go_wp2_with fail
              go_roundw
              case rel => exact ⟨i + 1, d, D, dc, by omega, by omega, by go_num, rfl, HO, S2.out.mono (by omega)⟩
              case measure => simp [intOf]; omega
          · go_wp2_with fail
            go_meet
            exact ⟨D, dc, d, rfl, by omega, HO, HS.out.mono (by omega)⟩
    · as_aux_lemma =>
        have SB : Hid (CS _ _ _ _ _ _ _ [Own 3 1 (.slice E zs.length ec) zs.length (zs.map (.int .i64)), Box w.heap.size 26 #[.int .i64 vars, .slice B m cap]]) := Lib.hid ((HB.out rfl).pick [0, 1] rfl)
        clear HB HS
        go_upto_region 5 with fail
        go_cut [27] (fun s wx => ∃ b : Bool, s = .bool b ∧ Hid (b = true → 0 < zs.length) ∧ Hid (CS w g ca cl cc (A + 4) wx [Own 3 1 (.slice E zs.length ec) zs.length (zs.map (.int .i64)), Box w.heap.size 26 #[.int .i64 vars, .slice B m cap]]))
        case first =>
          go_wp2_with fail
          refine (cur_one 3 _ g ca cl cc _ SB.out.cur (by omega) (by omega)).mono ?_
          rintro e w2 ⟨_, ⟨q, rfl⟩, rfl, hi2, hc2⟩
          have S2 := Lib.hid (SB.out.turn hi2 hc2)
          clear SB hi2 hc2
          cases q
          · go_wp2_with fail
            go_meet
            exact ⟨false, rfl, (fun h => by cases h), S2⟩
          · by_cases h0 : 0 < zs.length
            · have e0 : decide ((0 : Int) < (zs.length : Int)) = true := decide_eq_true (by omega)
              go_wp2_with fail
              go_meet
              exact ⟨true, rfl, (fun _ => h0), S2⟩
            · have e0 : decide ((0 : Int) < (zs.length : Int)) = false := decide_eq_false (by omega)
              go_wp2_with fail
              go_meet
              exact ⟨false, rfl, (fun h => by cases h), S2⟩
        case rest =>
        clear SB
        obtain ⟨b, rfl, hb, HS⟩ := hcut
        cases b
        · go_wp2_with fail
          go_meet
          exact ⟨E, ec, zs, rfl, hzl, hzo, HS.out.mono (by omega)⟩
        · have h0 := hb.out rfl
          clear hb
          go_wp2_with fail
          refine (cur_pick_at (lo := 0) (hi := zs.length - 1) HS.out.cur (by omega) (by omega) (by omega) (by omega) (by omega)).mono ?_
          rintro e w2 ⟨_, ⟨x, hx0, hx1, rfl⟩, rfl, hi2, hc2⟩
          have S2 := HS.out.turn hi2 hc2
          obtain ⟨k, rfl⟩ := Int.eq_ofNat_of_zero_le hx0
          have hcap := own_cap (S2.own (i := 0) rfl)
          obtain ⟨E', ec', e1, hT⟩ := ints_own (S2.own (i := 0) rfl) hzo.out
          simp only [Value.slice.injEq] at e1
          obtain ⟨rfl, -, rfl⟩ := e1
          have hsk := Lib.hid (l5Skip_any E zs.length ec k zs w2 hT rfl (by omega) (by omega) hcap)
          replace S2 := Lib.hid S2
          have hlen : zs.length - 1 = (zs.eraseIdx k).length := by rw [List.length_eraseIdx]; split <;> omega
          rw [hlen] at hsk
          clear HS hi2 hc2 hT hcap
          have HO2 := Lib.hid (hzo.out.erase k)
          have hl2 : (zs.eraseIdx k).length ≤ 80 := by omega
          go_wp2_with fail
          refine hsk.out.mono ?_
          rintro e w3 ⟨D, dc, rfl, T⟩
          have S3 := Lib.hid ((S2.out.seq T).pick (qs := [Own 3 1 (.slice D (zs.eraseIdx k).length dc) (zs.eraseIdx k).length ((zs.eraseIdx k).map (.int .i64)), Box w.heap.size 26 #[.int .i64 vars, .slice B m cap]]) [0, 1] rfl)
          clear S2 T hsk
          generalize zs.eraseIdx k = d at *
          clear hlen
          go_wp2_with fail
          go_meet
          exact ⟨D, dc, d, rfl, hl2, HO2, S3.out.mono (by omega)⟩
  case rest =>
  clear HS HB
  obtain ⟨D, dc, d, rfl, hdl, HO, HS⟩ := hcut
  go_wp2_with fail
  refine (cur_one 16 _ g ca cl cc _ HS.out.cur (by omega) (by omega)).mono ?_
  rintro e w2 ⟨_, ⟨q, rfl⟩, rfl, hi2, hc2⟩
  have S2 := Lib.hid (HS.out.turn hi2 hc2)
  clear HS hi2 hc2
  cases q
  · have ho := Lib.hid (S2.out.owns_end (i := 0) rfl)
    have hI := Lib.hid (S2.out.cur.mono (show _ ≤ A + 1000 by omega))
    have hC := Lib.hid S2.out.chg
    clear S2
    go_wp2_with fail
    go_ret
    exact ⟨_, d, rfl, ho.out, by omega, HO.out, hI.out, hC.out⟩
  · have d1 := S2.out.cell (i := 1) rfl (o := 1) rfl
    have S3 := Lib.hid (S2.out.alloc (.cells #[.int .i64 (-1), .int .i64 0, .int .i64 (m : Int)] 3))
    have hgw : g < w2.heap.size := S2.out.cur.lt
    have hcall := Lib.hid (cur_among (-1) (m : Int) w2.heap.size 0 3 3 _ g ca cl cc _ S3.out.cur (by omega) (by decide) (by decide) (ints_new (by simp) fun j hj => by
      match j, hj with
      | 0, _ => exact ⟨_, rfl, by omega, by omega⟩
      | 1, _ => exact ⟨_, rfl, by omega, by omega⟩
      | 2, _ => exact ⟨_, rfl, by omega, by omega⟩) (by omega))
    clear S2 hgw
    go_wp2_with fail
    refine hcall.out.mono ?_
    rintro e w3 ⟨_, ⟨x, hx0, hx1, rfl⟩, rfl, hi3, hc3⟩
    have S4 := (S3.out.turn hi3 hc3).alloc_box #[.int .i64 x] 3
    have kB := S4.cell (i := 0) rfl (o := 0) rfl
    replace S4 := Lib.hid S4
    clear S3 hcall hi3 hc3 d1
    go_wp2_with (at_builtin; refine wpList_append_src rfl _ _ rfl Try.underlying30 hi0 hy0 hy1 hy2 rfl (by decide) _ _ _ rfl (S4.out.own (i := 1) rfl) _ 1 1 [.int .i64 x] rfl (Src.one kB) (by simp [Value.oneCell']) ?c3 ?c4 ?_)
    case c3 => unfold maxLen; omega
    case c4 => omega
    intro vY wY hownY hgY hatY
    have S5 := (S4.out.own_push (i := 1) rfl (bb _) hownY hgY (by simpa using hatY)).tail
    obtain ⟨aY, cY, rfl⟩ := own_slice hownY
    have hlen : d.length + 1 = (d ++ [x]).length := by simp
    have S6 : Hid (CS w g ca cl cc (A + 1000) wY [Own 3 1 (.slice aY (d ++ [x]).length cY) (d ++ [x]).length ((d ++ [x]).map (.int .i64)), Box w.heap.size 26 #[.int .i64 vars, .slice B m cap]]) := by
      unfold Hid; rw [← hlen, List.map_append]; exact S5.mono (by omega)
    have HO2 : Hid (OkI (d ++ [x])) := HO.out.snoc (by unfold I64; omega)
    have hl2 : (d ++ [x]).length ≤ 100 := by rw [← hlen]; omega
    clear S4 S5 kB hownY hgY hatY HO
    rw [hlen]
    replace hlen := Lib.hid hlen
    generalize d ++ [x] = d2 at *
    have ho := Lib.hid (S6.out.owns_end (i := 0) rfl)
    have hI := Lib.hid S6.out.cur
    have hC := Lib.hid S6.out.chg
    clear S6
    go_wp2_with fail
    go_ret
    exact ⟨_, d2, rfl, ho.out, hl2, HO2.out, hI.out, hC.out⟩
end Go.Proofs.Ytmikconjhmhekaa

/- Contracts: drawn Cnfs with indices of clauses. -/
namespace Go.Proofs.Ytmikconjhmhekaa
open Go.RowKit

def Core5D (w : World) (e : Ending) (w' : World) : Prop := ∃ (vars : Int) (B : Option Addr) (cap : Nat) (cs : List Value) (xss : List (List Int)) (D : Option Addr) (dc : Nat) (d : List Int),
  e = .returned (.tuple #[.agg #[.int .i64 vars, .slice B xss.length cap], .slice D d.length dc]) ∧ -1 ≤ vars ∧ vars ≤ 13 ∧ xss.length ≤ 62 ∧ SmallR 13 xss ∧ d.length ≤ 100 ∧ OkI d ∧
  Sp w w' [Rows Ty.int 30 (.slice B xss.length cap) cs xss, Own 3 1 (.slice D d.length dc) d.length (d.map (.int .i64))]

set_option maxRecDepth 100000 in
set_option maxHeartbeats 16000000 in
theorem drawIsCore_any (ca : Option Addr) (cl cc : Nat) (w : World) (hc : CodeOk w ca cl) (hs : cl ≤ 65536) : Calls Try.prog 120 #[.slice ca cl cc] w (Core5D w) := by
  have S0 := ((Sp.start w).alloc_box #[.int .i64 0, .slice none 0 0] 26).cur_laid ca cl cc
  simp only [World.size_alloc] at S0
  have hi := Lib.hid (S0.cur (A' := 0) (i := 0) rfl hc hs).1
  obtain ⟨gc, hgc⟩ : ∃ gc, w.heap.size + 1 = gc := ⟨_, rfl⟩
  rw [hgc] at S0 hi
  replace S0 := Lib.hid S0
  have hcH := Lib.hid hc
  clear hc
  go_enter Try.func120, Try.ntmps120
  go_wp2_with fail
  refine (cur_hard 0 gc ca cl cc _ hi.out (by omega)).mono ?_
  rintro e w1 ⟨vars, B, cap, cs, xss, rfl, hv0, hv1, hl, HC, T⟩
  replace HC := Lib.hid HC
  have S1 := (S0.out.cs_call T hcH.out hs).alloc_box #[.int .i64 vars, .slice B xss.length cap] 26
  clear T S0 hi
  obtain ⟨fb, hfb⟩ : ∃ fb, w1.heap.size = fb := ⟨_, rfl⟩
  rw [hfb] at S1
  have S2 : Hid (Sp w (w1.alloc (.cells #[.int .i64 vars, .slice B xss.length cap] 26)) [Box fb 26 #[.int .i64 vars, .slice B xss.length cap], Rows Ty.int 30 (.slice B xss.length cap) cs xss, CurA 400 gc ca cl cc, Box w.heap.size 26 #[.int .i64 0, .slice none 0 0]]) := S1
  clear S1
  have hcu := (S2.out.cur (A' := 410) (i := 2) rfl hcH.out hs).1
  go_wp2_with fail
  refine (cur_one 4 _ gc ca cl cc _ hcu (by omega) (by omega)).mono ?_
  rintro e w3 ⟨_, ⟨q, rfl⟩, rfl, hi3, hc3⟩
  have S4 := Lib.hid ((S2.out.cur (A' := 420) (i := 2) rfl hcH.out hs).2 w3 (hi3.mono (by omega)) hc3)
  clear S2 hcu hi3 hc3
  replace S4 : Hid (Sp w w3 [Box fb 26 #[.int .i64 vars, .slice B xss.length cap], Rows Ty.int 30 (.slice B xss.length cap) cs xss, CurA 420 gc ca cl cc, Box w.heap.size 26 #[.int .i64 0, .slice none 0 0]]) := S4
  go_upto_if 12 with fail
  go_cut [] (fun wx => ∃ (vars : Int) (B : Option Addr) (cap : Nat) (cs : List Value) (ys : List (List Int)), -1 ≤ vars ∧ vars ≤ 13 ∧ ys.length ≤ 62 ∧ Hid (SmallR 13 ys) ∧ Hid (Sp w wx [Box fb 26 #[.int .i64 vars, .slice B ys.length cap], Rows Ty.int 30 (.slice B ys.length cap) cs ys, CurA 3000 gc ca cl cc, Box w.heap.size 26 #[.int .i64 0, .slice none 0 0]]))
  case first =>
    cases q
    · have S5 := Lib.hid ((S4.out.cur (A' := 3000) (i := 2) rfl hcH.out hs).2 _ ((S4.out.cur (A' := 3000) (i := 2) rfl hcH.out hs).1.mono (by omega)) (Chg.refl _ _))
      clear S4
      go_wp2_with fail
      go_meet
      exact ⟨vars, B, cap, cs, xss, hv0, hv1, hl, HC, S5⟩
    · have S5 := Lib.hid (S4.out.pick (qs := [CurA 420 gc ca cl cc, Box fb 26 #[.int .i64 vars, .slice B xss.length cap], Box w.heap.size 26 #[.int .i64 0, .slice none 0 0]]) [2, 0, 1] rfl)
      have hcu := (S5.out.cur (A' := 420) (i := 0) rfl hcH.out hs).1
      clear S4 HC
      go_wp2_with fail
      refine (cur_cnf _ gc ca cl cc _ hcu (by omega)).mono ?_
      rintro e w5 ⟨va, B2, cap2, cs2, yss, rfl, hv2, hv3, hl2, HC2, T2⟩
      replace HC2 := Lib.hid HC2
      have S6 := S5.out.cs_call T2 hcH.out hs
      have g0 := S6.cell (i := 2) rfl (o := 0) rfl
      have g1 := S6.cell (i := 2) rfl (o := 1) rfl
      have f0 := S6.frozen (i := 2) rfl 0
      have f1 := S6.frozen (i := 2) rfl 1
      have S7 := (S6.store (i := 2) rfl 0 (.int .i64 va)).store (i := 2) rfl 1 (.slice B2 yss.length cap2)
      have S8 := S7.pick (qs := [Box fb 26 #[.int .i64 va, .slice B2 yss.length cap2], Rows Ty.int 30 (.slice B2 yss.length cap2) cs2 yss, CurA 2420 gc ca cl cc, Box w.heap.size 26 #[.int .i64 0, .slice none 0 0]]) [2, 0, 0, 0] rfl
      have S9 := Lib.hid ((S8.cur (A' := 3000) (i := 2) rfl hcH.out hs).2 _ ((S8.cur (A' := 3000) (i := 2) rfl hcH.out hs).1.mono (by omega)) (Chg.refl _ _))
      clear S5 S6 S7 S8 T2 hcu
      go_wp2_with fail
      go_meet
      exact ⟨va, B2, cap2, cs2, yss, hv2, hv3, hl2, HC2, S9⟩
  case rest =>
  clear S4 HC hv0 hv1 hl
  obtain ⟨vars, B, cap, cs, xss, hv0, hv1, hl, HC, HS⟩ := hcut
  have l0 := HS.out.cell (i := 0) rfl (o := 0) rfl
  have l1 := HS.out.cell (i := 0) rfl (o := 1) rfl
  have S4 := Lib.hid ((HS.out.drew).pick (qs := [CurA 3000 gc ca cl cc, Box fb 26 #[.int .i64 vars, .slice B xss.length cap], Rows Ty.int 30 (.slice B xss.length cap) cs xss, Box w.heap.size 26 #[.int .i64 0, .slice none 0 0]]) [2, 0, 0, 0] rfl)
  have hcu := Lib.hid (S4.out.cur (A' := 3000) (i := 0) rfl hcH.out hs).1
  obtain ⟨F, hrow, -⟩ := S4.out.rows_done (i := 2) rfl
  have hix := Lib.hid (indices5_any vars B cap xss F _ gc ca cl cc _ hcu.out (by omega) (Ty.row_down hrow) (by omega))
  clear HS hrow
  go_wp2_with fail
  refine wp_region_tail_lit (S := (fun w' => w'.cell? ⟨fb, 0, none⟩ = some (.int .i64 vars) ∧ w'.cell? ⟨fb, 1, none⟩ = some (.slice B xss.length cap))) 4 [false, false, false, false, false, false] (by kernel_rfl) (by kernel_rfl) (by kernel_rfl) ?_ ?_
  · exact ⟨l0, l1⟩
  intro hSc
  (refine walkT_take (i := 0) (v := ?_) rfl (by kernel_rfl) (by decide) (by kernel_rfl) (by kernel_rfl) (fun _ _ _ h => h) (Or.inl ⟨by rfl, ?_⟩) (by assumption) ?_; rotate_left; (focus (intro w hSw; (try dsimp only at hSw); go_simp; (try with_reducible rfl); done)); (try simp only [put_rules]))
  (refine walkT_take (i := 1) (v := ?_) rfl (by kernel_rfl) (by decide) (by kernel_rfl) (by kernel_rfl) (fun _ _ _ h => h) (Or.inl ⟨by rfl, ?_⟩) (by assumption) ?_; rotate_left; (focus (intro w hSw; (try dsimp only at hSw); go_simp; (try with_reducible rfl); done)); (try simp only [put_rules]))
  (refine walkT_take (i := 2) (v := ?_) rfl (by kernel_rfl) (by decide) (by kernel_rfl) (by kernel_rfl) (fun _ _ _ h => h) (Or.inl ⟨by rfl, ?_⟩) (by assumption) ?_; rotate_left; (focus (intro w hSw; (try dsimp only at hSw); go_simp; (try with_reducible rfl); done)); (try simp only [put_rules]))
  (refine walkT_ready (rs := [3]) (by kernel_rfl) (by simp) (by decide) ?_; refine AllT.cons rfl (fun K hK => ?_) AllT.nil)
  go_simp
  go_at_call 209
  refine hix.out.mono ?_
  rintro e w5 ⟨v, d, rfl, ho, hdl, hO, hi5, hc5⟩
  have S5 := S4.out.cs_call (row_cs hcu.out hi5 hc5 ho) hcH.out hs
  obtain ⟨D, dc, rfl⟩ := own_slice ho
  replace S5 := Lib.hid S5
  have hO2 := Lib.hid hO
  clear S4 hcu hi5 hc5 ho hO l0 l1 hix
  go_wp2_with fail
  refine hK.out _ _ ⟨S5.out.cell (i := 2) rfl (o := 0) rfl, S5.out.cell (i := 2) rfl (o := 1) rfl⟩ (fun hS2 => ?_)
  clear hK hSc
  (try simp only [put_rules])
  (refine walkT_done (by kernel_rfl) ?_)
  simp only [List.drop_succ_cons, List.drop_zero]
  have f0 := S5.out.frozen (i := 4) rfl 0
  have f1 := S5.out.frozen (i := 4) rfl 1
  have r0 := S5.out.cell (i := 4) rfl (o := 0) rfl
  have r1 := S5.out.cell (i := 4) rfl (o := 1) rfl
  have SF := (S5.out.store (i := 4) rfl 0 (.int .i64 vars)).store (i := 4) rfl 1 (.slice B xss.length cap)
  have j0 := SF.cell (i := 4) rfl (o := 0) rfl
  have j1 := SF.cell (i := 4) rfl (o := 1) rfl
  have hR := Lib.hid (SF.pick (qs := [Rows Ty.int 30 (.slice B xss.length cap) cs xss, Own 3 1 (.slice D d.length dc) d.length (d.map (.int .i64))]) [3, 0] rfl)
  clear SF S5 hS2
  go_wp2_with fail
  exact bodyPost_ret (v := .tuple #[.agg #[.int .i64 vars, .slice B xss.length cap], .slice D d.length dc]) (by simp [results, Try.results120, go_sem, j0, j1]) rfl ⟨vars, B, cap, cs, xss, D, dc, d, rfl, hv0, hv1, hl, HC.out, hdl, hO2.out, hR.out⟩

theorem drawIsMinimalCore_any (ca : Option Addr) (cl cc : Nat) (w : World) (hc : CodeOk w ca cl) (hs : cl ≤ 65536) : Calls Try.prog 31 #[.slice ca cl cc] w (Core5D w) := by
  have S0 := Lib.hid ((Sp.start w).alloc_box #[.int .i64 0, .slice none 0 0] 26)
  have hd := Lib.hid (drawIsCore_any ca cl cc _ (hc.grow S0.out.below) hs)
  clear hc
  go_enter Try.func31, Try.ntmps31
  go_wp2_with fail
  refine hd.out.mono ?_
  rintro e w1 ⟨vars, B, cap, cs, xss, D, dc, d, rfl, hv0, hv1, hl, HC, hdl, hO, T⟩
  have HC2 := Lib.hid HC
  have hO2 := Lib.hid hO
  have S5 := S0.out.seq T
  have f0 := S5.frozen (i := 2) rfl 0
  have f1 := S5.frozen (i := 2) rfl 1
  have r0 := S5.cell (i := 2) rfl (o := 0) rfl
  have r1 := S5.cell (i := 2) rfl (o := 1) rfl
  have SF := (S5.store (i := 2) rfl 0 (.int .i64 vars)).store (i := 2) rfl 1 (.slice B xss.length cap)
  have j0 := SF.cell (i := 2) rfl (o := 0) rfl
  have j1 := SF.cell (i := 2) rfl (o := 1) rfl
  have hR := Lib.hid (SF.pick (qs := [Rows Ty.int 30 (.slice B xss.length cap) cs xss, Own 3 1 (.slice D d.length dc) d.length (d.map (.int .i64))]) [0, 0] rfl)
  clear SF S5 S0 T hd HC hO
  go_wp2_with fail
  exact bodyPost_ret (v := .tuple #[.agg #[.int .i64 vars, .slice B xss.length cap], .slice D d.length dc]) (by simp [results, Try.results31, go_sem, j0, j1]) rfl ⟨vars, B, cap, cs, xss, D, dc, d, rfl, hv0, hv1, hl, HC2.out, hdl, hO2.out, hR.out⟩
end Go.Proofs.Ytmikconjhmhekaa

/- What the law of cores asks of its functions, at the first and at the second Cnf. -/
namespace Go.Proofs.Ytmikconjhmhekaa
open Go.RowKit

def BBs (w : World) (a b : Bool) (e : Ending) (w' : World) : Prop := e = .returned (.tuple #[.bool a, .bool b]) ∧ Below w.heap.size w w'
theorem leastR_some {n : Nat} {vars : Int} {xss : List (List Int)} {r : List Nat} (h : leastR n vars xss = some r) : goodB vars xss = true ∧ coreB n xss (List.range xss.length) = true ∧ leastTo (coreB n xss) xss.length (xss.length + 1) = some r := by
  unfold leastR at h
  split at h
  · rename_i hq
    simp only [Bool.and_eq_true, Bool.not_eq_true'] at hq
    exact ⟨hq.1.1, by rw [core_all, hq.2]; rfl, h⟩
  · cases h
theorem coreOk_true {n : Nat} {vars : Int} {xss : List (List Int)} (h : coreOk n vars xss = true) : goodB vars xss = true ∧ coreB n xss (List.range xss.length) = true := by
  unfold coreOk at h
  simp only [Bool.and_eq_true, Bool.not_eq_true'] at h
  exact ⟨h.1, by rw [core_all, h.2]; rfl⟩
theorem cores_one (vars : Int) (v : Value) (xss : List (List Int)) (F : List Nat) (W0 : World) (hx : (Ty.slice Ty.int).row false W0 v xss F) (hn : xss.length ≤ 1000) :
    ∃ (ok fine is one : Bool) (zs ls : List Int),
      Hid (∀ W, Below W0.heap.size W0 W → Calls Try.prog 26 #[.agg #[.int .i64 vars, v]] W (IAnsC W ok zs)) ∧
      Hid (∀ W, Below W0.heap.size W0 W → Calls Try.prog 27 #[.agg #[.int .i64 vars, v]] W (IAns W ok zs)) ∧
      Hid (∀ W, Below W0.heap.size W0 W → Calls Try.prog 28 #[.agg #[.int .i64 vars, v]] W (IAnsC W fine ls)) ∧
      Hid (∀ W, Below W0.heap.size W0 W → Calls Try.prog 29 #[.agg #[.int .i64 vars, v]] W (IAns W fine ls)) ∧
      Hid (∀ W, Below W0.heap.size W0 W → Calls Try.prog 17 #[.agg #[.int .i64 vars, v]] W (BBs W is one)) ∧
      Hid (one = true → ok = !is) ∧
      Hid (ok = true → ∀ W D dc, Below W0.heap.size W0 W → IntsAt W D zs → zs.length ≤ dc → Calls Try.prog 30 #[.agg #[.int .i64 vars, v], .slice D zs.length dc] W (BBs W true true)) ∧
      Hid (fine = true → ∀ W D dc, Below W0.heap.size W0 W → IntsAt W D ls → ls.length ≤ dc → Calls Try.prog 30 #[.agg #[.int .i64 vars, v], .slice D ls.length dc] W (BBs W true true)) ∧
      Hid (fine = true → ls.length ≤ zs.length) ∧ zs.length ≤ 1000 ∧ ls.length ≤ 1000 := by
  have lift := fun W (h : Below W0.heap.size W0 W) => Ty.row_below hx h (Ty.row_lt hx)
  have hcl := asc_len (coreL_asc vars.toNat xss)
  have hfo : ∀ r, leastR vars.toNat vars xss = some r → coreOk vars.toNat vars xss = true := fun r h => by
    obtain ⟨h1, h2, -⟩ := leastR_some h
    rw [core_all] at h2
    unfold coreOk; rw [h1, h2]; rfl
  refine ⟨coreOk vars.toNat vars xss, (leastR vars.toNat vars xss).isSome, _, _, if coreOk vars.toNat vars xss then ofN (coreL vars.toNat xss) else [], listR (leastR vars.toNat vars xss),
    fun W h => implCoreOf_any vars v xss F W (lift W h), fun W h => specCoreOf_any vars v xss F W (lift W h),
    fun W h => implLeast5_any vars v xss F W (lift W h), fun W h => specLeast5_any vars v xss F W (lift W h),
    fun W h => isSatisfiable_any vars v xss F W (lift W h), fun h => ?_, fun h W D dc hb hT hd => ?_, fun h W D dc hb hT hd => ?_, fun h => ?_, ?_, ?_⟩
  · unfold coreOk; rw [h]; rfl
  · obtain ⟨h1, h2⟩ := coreOk_true h
    have hk := implIsMinimal_any vars v xss _ D dc F W (lift W hb) hT hd (by rw [if_pos h, ofN_len]; omega)
    rw [if_pos h] at hk ⊢
    rw [h1, ris_of_asc (coreL_asc _ _), natL_ofN, coreL_core h2, coreL_min] at hk
    exact hk
  · cases hr : leastR vars.toNat vars xss with
    | none => rw [hr] at h; cases h
    | some r =>
      obtain ⟨h1, h2, h3⟩ := leastR_some hr
      obtain ⟨a1, a2, a3⟩ := least_min h3
      have hrl := asc_len a2
      rw [hr] at hT hd
      have hk := implIsMinimal_any vars v xss _ D dc F W (lift W hb) hT hd (by show (ofN r).length ≤ _; rw [ofN_len]; omega)
      rw [show listR (some r) = ofN r from rfl] at hk ⊢
      rw [h1, ris_of_asc a2, natL_ofN, a1, least_minB h3] at hk
      exact hk
  · cases hr : leastR vars.toNat vars xss with
    | none => rw [hr] at h; cases h
    | some r =>
      obtain ⟨h1, h2, h3⟩ := leastR_some hr
      obtain ⟨a1, a2, a3⟩ := least_min h3
      rw [if_pos (hfo r hr)]
      show (ofN r).length ≤ _
      rw [ofN_len, ofN_len]
      exact a3 _ (coreL_asc _ _) (coreL_core h2)
  · split
    · rw [ofN_len]; omega
    · simp
  · cases hr : leastR vars.toNat vars xss with
    | none => simp [listR]
    | some r =>
      obtain ⟨h1, h2, h3⟩ := leastR_some hr
      obtain ⟨a1, a2, a3⟩ := least_min h3
      have hrl := asc_len a2
      show (ofN r).length ≤ _
      rw [ofN_len]; omega
theorem cores_two (vars : Int) (v : Value) (xss : List (List Int)) (F G : List Nat) (D : Option Addr) (dc : Nat) (d : List Int) (W0 : World) (hx : (Ty.slice Ty.int).row false W0 v xss F) (hn : xss.length ≤ 1000) (hy : Ty.int.row false W0 (.slice D d.length dc) d G) (hd : d.length ≤ 1000) :
    ∃ (a told b fine : Bool) (ls : List Int),
      Hid (∀ W, Below W0.heap.size W0 W → Calls Try.prog 32 #[.agg #[.int .i64 vars, v], .slice D d.length dc] W (BBs W a told)) ∧
      Hid (∀ W, Below W0.heap.size W0 W → Calls Try.prog 33 #[.agg #[.int .i64 vars, v], .slice D d.length dc] W (BBs W a told)) ∧
      Hid (∀ W, Below W0.heap.size W0 W → Calls Try.prog 30 #[.agg #[.int .i64 vars, v], .slice D d.length dc] W (BBs W b told)) ∧
      Hid (∀ W, Below W0.heap.size W0 W → Calls Try.prog 34 #[.agg #[.int .i64 vars, v], .slice D d.length dc] W (BBs W b told)) ∧
      Hid (∀ W, Below W0.heap.size W0 W → Calls Try.prog 28 #[.agg #[.int .i64 vars, v]] W (IAnsC W fine ls)) ∧
      Hid (b = true → a = true) ∧
      Hid (a = true → fine = true → ls.length ≤ d.length) ∧ ls.length ≤ 1000 := by
  have lift := fun W (h : Below W0.heap.size W0 W) => Ty.row_below hx h (Ty.row_lt hx)
  have lifd := fun W (h : Below W0.heap.size W0 W) => Ty.row_below hy h (Ty.row_lt hy)
  have lifI := fun W (h : Below W0.heap.size W0 W) => show IntsAt W D d by
    obtain ⟨D', dc', e', hT⟩ := ints_row (lifd W h)
    cases e'
    exact hT
  have hdc : d.length ≤ dc := by
    obtain ⟨_, _, e', hdc, -⟩ := Ty.row_len hy
    cases e'
    exact hdc
  refine ⟨_, _, _, (leastR vars.toNat vars xss).isSome, listR (leastR vars.toNat vars xss),
    fun W h => implIsCore_any vars v xss d D dc F G W (lift W h) (lifd W h) (by omega), fun W h => specIsCore_any vars v xss d D dc F G W (lift W h) (lifd W h) (by omega),
    fun W h => implIsMinimal_any vars v xss d D dc F W (lift W h) (lifI W h) hdc (by omega), fun W h => specIsMinimal_any vars v xss d D dc F G W (lift W h) (lifd W h) (by omega),
    fun W h => implLeast5_any vars v xss F W (lift W h), fun h => ?_, fun h h2 => ?_, ?_⟩
  · simp only [Bool.and_eq_true] at h ⊢
    exact ⟨h.1, h.2.1⟩
  · simp only [Bool.and_eq_true] at h
    obtain ⟨⟨-, h4⟩, h5⟩ := h
    obtain ⟨h6, h7⟩ := ris_natL h4
    cases hr : leastR vars.toNat vars xss with
    | none => rw [hr] at h2; cases h2
    | some r =>
      obtain ⟨-, -, h3⟩ := leastR_some hr
      obtain ⟨a1, a2, a3⟩ := least_min h3
      show (ofN r).length ≤ _
      rw [ofN_len, h6, ofN_len]
      exact a3 _ h7 h5
  · cases hr : leastR vars.toNat vars xss with
    | none => simp [listR]
    | some r =>
      obtain ⟨h1, h2, h3⟩ := leastR_some hr
      obtain ⟨a1, a2, a3⟩ := least_min h3
      have hrl := asc_len a2
      show (ofN r).length ≤ _
      rw [ofN_len]; omega
end Go.Proofs.Ytmikconjhmhekaa
