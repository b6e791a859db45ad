/- Lemmas and contracts for a law, put together out of several texts: MdT RsB MdL. -/
import Derived.Test.YtmikconjhmhekaaMg7
import Derived.Lib.SliceRun
import Derived.Lib.Hide
import Derived.Test.YtmikconjhmhekaaMg6
/- Contracts: implied clauses, in the program. -/
namespace Go.Proofs.Ytmikconjhmhekaa
open Go.RowKit

/-- Values of clauses that can be read. -/
def ClsV (w : World) (us : List Value) (xss : List (List Int)) : Prop := us.length = xss.length ∧ ∀ j (hj : j < xss.length), ∃ B c, us[j]? = some (.slice B xss[j].length c) ∧ IntsAt w B xss[j]
theorem cls_src {w : World} {A : Option Addr} {xss : List (List Int)} (h : ClsAt w A xss) : ∃ us, ClsV w us xss ∧ Src w A xss.length 1 us ∧ ∀ u ∈ us, u.oneCell' = true := by
  rcases Nat.eq_zero_or_pos xss.length with h0 | h0
  · obtain rfl : xss = [] := List.length_eq_zero_iff.1 h0
    exact ⟨[], ⟨rfl, fun j hj => absurd hj (by simp)⟩, .inl ⟨rfl, rfl⟩, by simp⟩
  · obtain ⟨b, off, -, -, rfl, -, -⟩ := h.at_ 0 h0
    have hat : ∀ j (hj : j < xss.length), ∃ B c, w.cell? ⟨b, off + j, none⟩ = some (.slice B xss[j].length c) ∧ IntsAt w B xss[j] := fun j hj => by
      obtain ⟨b', off', B, c, e, h1, h2⟩ := h.at_ j hj
      cases e
      exact ⟨B, c, h1, h2⟩
    refine ⟨(List.range xss.length).map fun j => (w.cell? ⟨b, off + j, none⟩).getD (.bool false), ⟨by simp, fun j hj => ?_⟩, .inr ⟨_, rfl, by simp, fun j u hu => ?_⟩, fun u hu => ?_⟩
    · obtain ⟨B, c, h1, h2⟩ := hat j hj
      exact ⟨B, c, by simp [List.getElem?_map, List.getElem?_range hj, h1], h2⟩
    · have hj : j < xss.length := by
        have := (List.getElem?_eq_some_iff.1 hu).1
        simpa using this
      obtain ⟨B, c, h1, h2⟩ := hat j hj
      rw [List.getElem?_map, List.getElem?_range hj] at hu
      simp only [Option.map_some, h1, Option.getD_some, Option.some.injEq] at hu
      rw [add_none, h1, hu]
    · obtain ⟨j, hj, rfl⟩ := List.mem_map.1 hu
      obtain ⟨B, c, h1, h2⟩ := hat j (List.mem_range.1 hj)
      rw [h1]; rfl
theorem ClsV.keep {w w' : World} {us : List Value} {xss : List (List Int)} (h : ClsV w us xss) (hb : Below w.heap.size w w') : ClsV w' us xss :=
  ⟨h.1, fun j hj => by
    obtain ⟨B, c, h1, h2⟩ := h.2 j hj
    exact ⟨B, c, h1, h2.grow hb⟩⟩
theorem ClsV.append {w : World} {us vs : List Value} {xss yss : List (List Int)} (h : ClsV w us xss) (k : ClsV w vs yss) : ClsV w (us ++ vs) (xss ++ yss) :=
  ⟨by simp [h.1, k.1], fun j hj => by
    by_cases hlt : j < xss.length
    · obtain ⟨B, c, h1, h2⟩ := h.2 j hlt
      rw [List.getElem_append_left hlt]
      exact ⟨B, c, by rw [List.getElem?_append_left (by rw [h.1]; exact hlt)]; exact h1, h2⟩
    · have hj2 : j - xss.length < yss.length := by rw [List.length_append] at hj; omega
      obtain ⟨B, c, h1, h2⟩ := k.2 _ hj2
      rw [List.getElem_append_right (by omega)]
      exact ⟨B, c, by rw [List.getElem?_append_right (by rw [h.1]; omega), h.1]; exact h1, h2⟩⟩
theorem ClsV.own {w : World} {B : Nat} {e : TypeId} {A : Option Addr} {c : Nat} {us : List Value} {xss : List (List Int)} (h : ClsV w us xss) (ho : w.ownsRow B e 1 (.slice A xss.length c) xss.length us) : ClsAt w A xss := ⟨fun j hj => by
  obtain ⟨g, cap, cur, e1, -, hh, -, -, -, ht⟩ := own_block ho (by omega)
  simp only [Value.slice.injEq] at e1
  obtain ⟨rfl, -, rfl⟩ := e1
  obtain ⟨B', c', h1, h2⟩ := h.2 j hj
  exact ⟨g, 0, B', c', rfl, by rw [Nat.zero_add, (own_at hh ht (o := j) (by omega)).1]; exact h1, h2⟩⟩

set_option maxRecDepth 100000 in
set_option maxHeartbeats 4000000 in
theorem cloneRows_any (A : Option Addr) (n cap : Nat) (us : List Value) (w : World) (hs : Src w A n 1 us) (h1 : ∀ u ∈ us, u.oneCell' = true) (hl : n ≤ 1000000) :
    Calls Try.prog 195 #[.slice A n cap] w fun e w' => ∃ B c, e = .returned (.slice B n c) ∧ Sp w w' [Own 30 1 (.slice B n c) n us] := by
  obtain ⟨i0, hi, hz0, hz1, hz2⟩ := info_parts infoRow
  have hnil := fun w : World => Lib.run_eql_slice_nil (P := Try.prog) w 24 30 A n cap 0 0 Try.underlying24
  cases A with
  | none =>
    have h0 : n = 0 ∧ us = [] := by
      rcases hs with h | ⟨ad, h, -⟩
      · exact h
      · cases h
    obtain ⟨rfl, rfl⟩ := h0
    go_enter Try.func195, Try.ntmps195
    go_wp2_with fail
    go_ret
    exact ⟨none, 0, rfl, (Sp.start w).own_nil _ _⟩
  | some ad =>
    have S0 := Lib.hid ((Sp.start w).own_made 30 1)
    have hs2 := Lib.hid (hs.grow (bal (bb w) (.cells #[] 30)))
    have h1H := Lib.hid h1
    clear hs h1
    simp only [Option.isNone_some] at hnil
    go_enter Try.func195, Try.ntmps195
    go_wp2_with (at_builtin; refine wpList_append_src rfl _ _ rfl Try.underlying24 hi hz0 hz1 hz2 rfl (by decide) _ _ _ rfl (S0.out.own (i := 0) rfl) _ n cap us rfl hs2.out h1H.out ?c3 ?c4 ?_)
    case c3 => unfold maxLen; omega
    case c4 => omega
    intro v' w' hown hg hat
    have S1 := S0.out.own_push (i := 0) rfl (bb _) hown hg (by simpa using hat)
    obtain ⟨B, c, rfl⟩ := own_slice hown
    replace S1 := Lib.hid S1
    clear hown hg hat S0 hs2 hnil
    go_wp2_with fail
    go_ret
    exact ⟨B, c, rfl, S1.out⟩

abbrev oneP (r : Nat × Int) : Asn := Box r.1 3 #[.int .i64 r.2]
abbrev oneV (r : Nat × Int) : Value := .slice (some ⟨r.1, 0, none⟩) 1 1
theorem ones_cls {w0 w : World} {q : Asn} {rs : List (Nat × Int)} (h : Sp w0 w (q :: rs.map oneP)) (hI : ∀ r ∈ rs, I64 r.2) : ClsV w (rs.reverse.map oneV) (rs.reverse.map fun r => [r.2]) :=
  ⟨by simp, fun j hj => by
    have hj2 : j < rs.length := by simpa using hj
    have hk : (rs.reverse)[j]? = some (rs.reverse[j]'(by simpa using hj2)) := List.getElem?_eq_getElem _
    obtain ⟨r, hr⟩ : ∃ r, rs.reverse[j]'(by simpa using hj2) = r := ⟨_, rfl⟩
    rw [hr] at hk
    have hk2 : rs[rs.length - 1 - j]? = some r := by rw [List.getElem?_reverse hj2] at hk; exact hk
    have hb := h.box (i := rs.length - 1 - j + 1) (b := r.1) (t := 3) (cs := #[.int .i64 r.2]) (by rw [List.getElem?_cons_succ, List.getElem?_map, hk2]; rfl)
    have hmem : r ∈ rs := List.mem_of_getElem? hk2
    refine ⟨some ⟨r.1, 0, none⟩, 1, by rw [List.getElem?_map, hk]; simp [hr], ?_⟩
    simp only [List.getElem_map, hr]
    exact ints_lone (by simp [World.cell?, hb.2.2]) (hI r hmem)⟩
theorem any_same {α : Type} {p q : α → Bool} {l : List α} (h : ∀ x ∈ l, p x = q x) : l.any p = l.any q := by
  rw [Bool.eq_iff_iff, List.any_eq_true, List.any_eq_true]
  exact ⟨fun ⟨x, h1, h2⟩ => ⟨x, h1, by rw [← h x h1]; exact h2⟩, fun ⟨x, h1, h2⟩ => ⟨x, h1, by rw [h x h1]; exact h2⟩⟩
theorem mod_negs {xss : List (List Int)} {c : List Int} {b : Nat} (hc : ∀ l ∈ c, l ≠ 0) : modT (xss ++ c.map fun l => [-l]) b = (!clT c b && modT xss b) := by
  have h2 : modT (c.map fun l => [-l]) b = !clT c b := by
    unfold modT clT
    rw [List.all_map, List.all_eq_not_any_not]
    congr 1
    refine any_same fun l hl => ?_
    · have h0 := hc l hl
      simp only [Function.comp, List.any_cons, List.any_nil, Bool.or_false]
      unfold litT
      rw [Int.natAbs_neg]
      by_cases hp : 0 < l
      · rw [decide_eq_true hp, decide_eq_false (by omega)]
        cases b.testBit (l.natAbs - 1) <;> rfl
      · rw [decide_eq_false hp, decide_eq_true (by omega)]
        cases b.testBit (l.natAbs - 1) <;> rfl
  have h3 : modT (xss ++ c.map fun l => [-l]) b = (modT xss b && modT (c.map fun l => [-l]) b) := by
    unfold modT
    rw [List.all_append]
  rw [h3, h2, Bool.and_comm]

set_option maxRecDepth 100000 in
set_option maxHeartbeats 8000000 in
theorem implies_any (n : Nat) (hn : n ≤ 12) (xss : List (List Int)) (hc : ∀ c ∈ xss, ClS c) (hl : xss.length ≤ 100000) (A : Option Addr) (cap : Nat) (d : List Int) (hd : ClS d) (D : Option Addr) (dc : Nat) (w : World) (hx : ClsAt w A xss) (hy : IntsAt w D d) :
    Calls Try.prog 105 #[.int .i64 n, .slice A xss.length cap, .slice D d.length dc] w fun e w' => e = .returned (.bool (impB n xss d)) ∧ Below w.heap.size w w' := by
  obtain ⟨i0, hi, hz0, hz1, hz2⟩ := info_parts infoRow
  obtain ⟨us, hV, hsrc, h1⟩ := cls_src hx
  have hcl := Lib.hid (cloneRows_any A xss.length cap us w hsrc h1 (by omega))
  have hD := Lib.hid hy
  have hV2 := Lib.hid hV
  have hdl := hd.2
  have hdd := Lib.hid hd.1
  have hcc := Lib.hid hc
  have hus := Lib.hid hV.1
  clear hx hy hV hsrc h1 hd hc
  go_enter Try.func105, Try.ntmps105
  go_wp2_with fail
  refine hcl.out.mono ?_
  rintro e w1 ⟨B, c, rfl, S0⟩
  replace S0 := Lib.hid S0
  clear hcl
  go_wp2_with fail
  go_loopw [7, 9, 14] (fun va _ vi wr => ∃ (k : Nat) (m : Nat) (E : Option Addr) (ec : Nat) (rs : List (Nat × Int)), k ≤ d.length ∧ vi = .int .i64 k ∧ m ≤ xss.length + 1000 ∧ va = .slice E m ec ∧ Hid (m = xss.length + k) ∧ Hid ((rs.reverse.map fun r => [r.2]) = (d.take k).map fun l => [-l]) ∧ Hid (∀ r ∈ rs, LitS r.2) ∧
    Hid (Sp w wr (Own 30 1 (.slice E m ec) m (us ++ rs.reverse.map oneV) :: rs.map oneP))) (fun _ _ vi _ => d.length - (intOf vi).toNat)
  case atStart => exact ⟨0, xss.length, B, c, [], Nat.zero_le _, rfl, by omega, rfl, rfl, by simp [Hid], by simp [Hid], by simpa [Hid] using S0.out⟩
  case round =>
    obtain ⟨k, m, E, ec, rs, hk, rfl, hm, rfl, hmk, hrs, hrl, HS⟩ := hrel
    clear S0
    by_cases hlt : k < d.length
    · obtain ⟨ab, off, rfl, m0⟩ := (hD.out.grow HS.out.below).at_ k hlt
      have hlk := hdd.out _ (List.getElem_mem hlt)
      have htk : (d.take (k + 1)).map (fun l => [-l]) = (d.take k).map (fun l => [-l]) ++ [[-d[k]]] := by rw [List.take_succ_eq_append_getElem hlt, List.map_append]; rfl
      generalize d[k] = l at *
      have hw1 : IntKind.i64.wrap (-l) = -l := IntWalk.i64_in _ (by unfold LitS at hlk; omega)
      have hl2 : Hid (LitS (-l)) := by unfold Hid LitS at *; omega
      have S2 := (HS.out.alloc_box #[.int .i64 (-l)] 3)
      have S3 := S2.alloc_box #[.slice (some ⟨wr.heap.size, 0, none⟩) 1 1] 30
      simp only [World.size_alloc] at S3
      have kB := S3.cell (i := 0) rfl (o := 0) rfl
      replace S3 := Lib.hid S3
      replace htk := Lib.hid htk
      clear S2 HS hlk
      go_wp2_with (at_builtin; refine wpList_append_src rfl _ _ rfl Try.underlying24 hi hz0 hz1 hz2 rfl (by decide) _ _ _ rfl (S3.out.own (i := 2) rfl) _ 1 1 [.slice (some ⟨wr.heap.size, 0, none⟩) 1 1] rfl (Src.one kB) (by simp [Value.oneCell']) ?c3 ?c4 ?_)
      case c3 => unfold maxLen; omega
      case c4 => omega
      intro vY wY hownY hgY hatY
      have S4 := (S3.out.own_push (i := 2) rfl (bb _) hownY hgY (by simpa using hatY)).tail.swap
      obtain ⟨aY, cY, rfl⟩ := own_slice hownY
      have S5 : Hid (Sp w wY (Own 30 1 (.slice aY (m + 1) cY) (m + 1) (us ++ (((wr.heap.size, -l) :: rs).reverse.map oneV)) :: (((wr.heap.size, -l) :: rs).map oneP))) := by
        unfold Hid
        rw [List.reverse_cons, List.map_append, List.map_reverse]
        exact S4
      have hrs2 : Hid ((((wr.heap.size, -l) :: rs).reverse.map fun r => [r.2]) = (d.take (k + 1)).map fun l => [-l]) := by
        unfold Hid
        rw [htk.out, List.reverse_cons, List.map_append, hrs.out]; rfl
      have hrl2 : Hid (∀ r ∈ ((wr.heap.size, -l) :: rs), LitS r.2) := by
        intro r hr
        rcases List.mem_cons.1 hr with rfl | hr
        · exact hl2.out
        · exact hrl.out r hr
      have hmk2 : Hid (m + 1 = xss.length + (k + 1)) := by unfold Hid; have := hmk.out; omega
      have hm2 : m + 1 ≤ xss.length + 1000 := by have := hmk.out; omega
      clear S3 S4 kB hownY hgY hatY hrs hrl hmk htk
      go_wp2_with fail
      go_roundw
      case rel => exact ⟨k + 1, m + 1, aY, cY, _, by omega, by go_num, hm2, rfl, hmk2, hrs2, hrl2, S5⟩
      case measure => simp [intOf]; omega
    · obtain rfl : k = d.length := by omega
      have hA : Hid (ClsAt wr E (xss ++ d.map fun l => [-l])) := by
        have h2 := ones_cls HS.out (fun r hr => (hrl.out r hr).i64)
        rw [hrs.out, List.take_length] at h2
        have h3 := ClsV.append (hV2.out.keep HS.out.below) h2
        have h4 := HS.out.own (i := 0) rfl
        have h5 : m = (xss ++ d.map fun l => [-l]).length := by rw [hmk.out]; simp
        rw [h5] at h4
        exact h3.own h4
      have hsat := satisfiable_any n hn (xss ++ d.map fun l => [-l]) (by
        intro c hc
        rcases List.mem_append.1 hc with hc | hc
        · exact hcc.out c hc
        · obtain ⟨l, hl, rfl⟩ := List.mem_map.1 hc
          refine ⟨fun x hx => ?_, by simp⟩
          obtain rfl : x = -l := by simpa using hx
          have := hdd.out l hl
          unfold LitS at *; omega) (by simp; omega) E ec wr hA.out
      rw [show (xss ++ d.map fun l => [-l]).length = m by rw [hmk.out]; simp] at hsat
      have himp : impB n xss d = !((List.range (2 ^ n)).any (modT (xss ++ d.map fun l => [-l]))) := by
        unfold impB
        congr 1
        exact any_same fun b _ => (mod_negs fun l hl => (hdd.out l hl).1).symm
      replace himp := Lib.hid himp
      replace hsat := Lib.hid hsat
      have hB := Lib.hid HS.out.below
      generalize (List.range (2 ^ n)).any (modT (xss ++ d.map fun l => [-l])) = q at *
      clear hA HS hrs hrl hmk
      go_wp2_with fail
      refine hsat.out.mono ?_
      rintro e w2 ⟨rfl, hb2⟩
      have hB2 := Lib.hid (btr hB.out hb2)
      clear hsat hb2 hB
      go_wp2_with fail
      go_ret
      exact ⟨ret_bool himp.out.symm, hB2.out⟩

set_option maxRecDepth 100000 in
set_option maxHeartbeats 4000000 in
theorem implImplies_any (vars : Int) (v : Value) (xss : List (List Int)) (d : List Int) (D : Option Addr) (dc : Nat) (F G : List Nat) (w : World) (hx : (Ty.slice Ty.int).row false w v xss F) (hy : Ty.int.row false w (.slice D d.length dc) d G) :
    Calls Try.prog 22 #[.agg #[.int .i64 vars, v], .slice D d.length dc] w fun e w' => e = .returned (.tuple #[.bool (goodB vars xss && clauseB vars d && impB vars.toNat xss d), .bool (goodB vars xss && clauseB vars d)]) ∧ Below w.heap.size w w' := by
  obtain ⟨A, cap, rfl, hI⟩ := cls_row hx
  have S0 := (Sp.start w).alloc_box #[.int .i64 vars, .slice A xss.length cap] 26
  have hgood := Lib.hid (implIsCnf_any vars _ xss F _ (Ty.row_below hx S0.below (Ty.row_lt hx)))
  have hcla := Lib.hid (fun W (h : Below w.heap.size w W) => implIsClause_any vars _ d G W (Ty.row_below hy h (Ty.row_lt hy)))
  have c0 := S0.cell (i := 0) rfl (o := 0) rfl
  have c1 := S0.cell (i := 0) rfl (o := 1) rfl
  replace S0 := Lib.hid S0
  have hyH := Lib.hid hy
  clear hx hy
  cases h1 : goodB vars xss
  · rw [h1] at hgood
    go_enter Try.func22, Try.ntmps22
    go_wp2_with fail
    refine hgood.out.mono ?_
    rintro e w1 ⟨rfl, hb1⟩
    have hB := Lib.hid (S0.out.grow hb1).below
    clear S0 hgood hb1 c0 c1
    go_wp2_with fail
    go_ret2
    exact ⟨rfl, hB.out⟩
  · rw [h1] at hgood
    cases h2 : clauseB vars d
    · rw [h2] at hcla
      go_enter Try.func22, Try.ntmps22
      go_wp2_with fail
      refine hgood.out.mono ?_
      rintro e w1 ⟨rfl, hb1⟩
      have S1 := Lib.hid (S0.out.grow hb1)
      clear S0 hgood hb1 c0 c1
      have c0 := S1.out.cell (i := 0) rfl (o := 0) rfl
      go_wp2_with fail
      refine (hcla.out _ S1.out.below).mono ?_
      rintro e w2 ⟨rfl, hb2⟩
      have hB := Lib.hid (S1.out.grow hb2).below
      clear S1 hcla hb2 c0
      go_wp2_with fail
      go_ret2
      exact ⟨rfl, hB.out⟩
    · have hg := good_cnf h1
      rw [h2] at hcla
      obtain ⟨n, rfl⟩ := Int.eq_ofNat_of_zero_le hg.1.1
      obtain ⟨D', dc', e', hT⟩ := ints_row hyH.out
      cases e'
      have hcd := clause_s h2
      have him := Lib.hid (fun W (h : Below w.heap.size w W) => implies_any n (by omega) xss hg.2.2.2 (by omega) A cap d hcd D dc W (hI.grow h) (hT.grow h))
      rw [show (n : Int).toNat = n by omega]
      clear hg hI hT hcd h1 h2
      generalize impB n xss d = q at *
      go_enter Try.func22, Try.ntmps22
      go_wp2_with fail
      refine hgood.out.mono ?_
      rintro e w1 ⟨rfl, hb1⟩
      have S1 := Lib.hid (S0.out.grow hb1)
      clear S0 hgood hb1 c0 c1
      have c0 := S1.out.cell (i := 0) rfl (o := 0) rfl
      go_wp2_with fail
      refine (hcla.out _ S1.out.below).mono ?_
      rintro e w2 ⟨rfl, hb2⟩
      have S2 := Lib.hid (S1.out.grow hb2)
      clear S1 hcla hb2 c0
      have c0 := S2.out.cell (i := 0) rfl (o := 0) rfl
      have c1 := S2.out.cell (i := 0) rfl (o := 1) rfl
      go_wp2_with fail
      refine (him.out _ S2.out.below).mono ?_
      rintro e w3 ⟨rfl, hb3⟩
      have hB := Lib.hid (S2.out.grow hb3).below
      clear S2 him hb3 c0 c1
      go_wp2_with fail
      go_ret2
      exact ⟨rfl, hB.out⟩
end Go.Proofs.Ytmikconjhmhekaa

/- Contract: a number among numbers, in the laws. -/
namespace Go.Proofs.Ytmikconjhmhekaa
open Go.RowKit

theorem contains_next {xs : List Int} {k : Nat} (hk : k < xs.length) (x : Int) : (xs.take (k + 1)).contains x = ((xs.take k).contains x || (x == xs[k])) := by
  rw [List.take_succ_eq_append_getElem hk, List.contains_append]
  congr 1
  rw [Bool.eq_iff_iff]
  simp
theorem contains_take {xs : List Int} {k : Nat} {x : Int} (h : (xs.take k).contains x = true) : xs.contains x = true := by
  rw [List.contains_iff_mem] at *
  exact List.mem_of_mem_take h

set_option maxHeartbeats 2000000 in
theorem rHas_any (A : Option Addr) (cap : Nat) (xs : List Int) (x : Int) (w : World) (hx : IntsAt w A xs) (hl : xs.length ≤ 1000000) :
    Calls Try.prog 20 #[.slice A xs.length cap, .int .i64 x] w fun e w' => e = .returned (.bool (xs.contains x)) ∧ w' = w := by
  have hN := Lib.hid hx
  clear hx
  obtain ⟨q, hq⟩ : ∃ q, xs.contains x = q := ⟨_, rfl⟩
  rw [hq]
  replace hq := Lib.hid hq
  go_enter Try.func20, Try.ntmps20
  go_wp2_with fail
  go_loopw [5] (fun vi wr => ∃ k : Nat, k ≤ xs.length ∧ vi = .int .i64 k ∧ Hid ((xs.take k).contains x = false) ∧ wr = w) (fun vi _ => xs.length - (intOf vi).toNat)
  case atStart => exact ⟨0, Nat.zero_le _, rfl, rfl, rfl⟩
  case round =>
    obtain ⟨k, hk, rfl, hno, rfl⟩ := hrel
    by_cases hlt : k < xs.length
    · obtain ⟨b, off, rfl, m0⟩ := hN.out.at_ k hlt
      have hnx := Lib.hid (contains_next hlt x)
      have hall := Lib.hid (fun h => contains_take (xs := xs) (k := k + 1) (x := x) h)
      generalize xs[k] = y at *
      by_cases hyx : y = x
      · have d0 : (y == x) = true := by rw [hyx]; simp
        have d1 : decide (y = x) = true := decide_eq_true hyx
        have hyes : xs.contains x = true := hall.out (by rw [hnx.out, hyx]; simp)
        obtain rfl : q = true := by rw [← hq.out]; exact hyes
        subst hyx
        clear hnx hall hyes
        go_wp2_with fail
        go_ret
        exact ⟨rfl, rfl⟩
      · have d0 : (y == x) = false := by simpa using hyx
        have d1 : decide (y = x) = false := decide_eq_false hyx
        have hno2 : Hid ((xs.take (k + 1)).contains x = false) := by
          unfold Hid
          rw [hnx.out, hno.out]
          simpa using fun h => hyx h.symm
        clear hnx hall
        go_wp2_with fail
        go_roundw
        case rel => exact ⟨k + 1, by omega, by go_num, hno2, by first | rfl | trivial⟩
        case measure => simp [intOf]; omega
    · obtain rfl : k = xs.length := by omega
      have hz : xs.contains x = false := by have := hno.out; rwa [List.take_length] at this
      obtain rfl : q = false := by rw [← hq.out]; exact hz
      clear hz
      go_wp2_with fail
      go_ret
      exact ⟨rfl, rfl⟩
end Go.Proofs.Ytmikconjhmhekaa

/- Contract: Cnfs with the same models, in the program, where both are valid. -/
namespace Go.Proofs.Ytmikconjhmhekaa
open Go.RowKit

theorem all_next {p : Nat → Bool} {k : Nat} : (List.range (k + 1)).all p = ((List.range k).all p && p k) := by
  simp [List.range_succ, List.all_append]
theorem all_no {p : Nat → Bool} {k N : Nat} (hk : k < N) (h : p k = false) : (List.range N).all p = false := by
  rw [List.all_eq_false]
  exact ⟨k, List.mem_range.2 hk, by rw [h]; decide⟩

set_option maxRecDepth 100000 in
set_option maxHeartbeats 4000000 in
theorem areEquivalent_any (n : Nat) (v u : Value) (xss yss : List (List Int)) (F G : List Nat) (w : World) (hx : (Ty.slice Ty.int).row false w v xss F) (hy : (Ty.slice Ty.int).row false w u yss G) (h1 : goodB n xss = true) (h2 : goodB n yss = true) :
    Calls Try.prog 24 #[.agg #[.int .i64 n, v], .agg #[.int .i64 n, u]] w fun e w' => e = .returned (.tuple #[.bool ((List.range (2 ^ n)).all fun b => modT xss b == modT yss b), .bool true]) ∧ Below w.heap.size w w' := by
  obtain ⟨A, cap, rfl, hI⟩ := cls_row hx
  obtain ⟨C, dap, rfl, hJ⟩ := cls_row hy
  have S0 := ((Sp.start w).alloc_box #[.int .i64 n, .slice A xss.length cap] 26).alloc_box #[.int .i64 n, .slice C yss.length dap] 26
  simp only [World.size_alloc] at S0
  have hg := good_cnf h1
  have hh := good_cnf h2
  have hn : n ≤ 12 := by omega
  obtain ⟨hsh, hp⟩ := pow12 hn
  have g1 := Lib.hid (fun W (h : Below w.heap.size w W) => h1 ▸ implIsCnf_any n _ xss F W (Ty.row_below hx h (Ty.row_lt hx)))
  have g2 := Lib.hid (fun W (h : Below w.heap.size w W) => h2 ▸ implIsCnf_any n _ yss G W (Ty.row_below hy h (Ty.row_lt hy)))
  have m1 := Lib.hid (fun b (hb : b < 4096) W (h : Below w.heap.size w W) => isModel_any xss hg.2.2.2 (by omega) A cap b (Nat.lt_trans hb (by decide)) W (hI.grow h))
  have m2 := Lib.hid (fun b (hb : b < 4096) W (h : Below w.heap.size w W) => isModel_any yss hh.2.2.2 (by omega) C dap b (Nat.lt_trans hb (by decide)) W (hJ.grow h))
  have c0 := S0.cell (i := 0) rfl (o := 0) rfl
  have c1 := S0.cell (i := 0) rfl (o := 1) rfl
  have d0 := S0.cell (i := 1) rfl (o := 0) rfl
  have d1 := S0.cell (i := 1) rfl (o := 1) rfl
  replace S0 := Lib.hid S0
  clear hx hy hI hJ hg hh h1 h2
  obtain ⟨z, hz⟩ : ∃ z, ((List.range (2 ^ n)).all fun b => modT xss b == modT yss b) = z := ⟨_, rfl⟩
  rw [hz]
  replace hz := Lib.hid hz
  generalize 2 ^ n = N at *
  go_enter Try.func24, Try.ntmps24
  go_wp2_with fail
  refine (g1.out _ S0.out.below).mono ?_
  rintro e w1 ⟨rfl, hb1⟩
  have S1 := Lib.hid (S0.out.grow hb1)
  clear S0 g1 hb1 c0 c1 d0 d1
  have c0 := S1.out.cell (i := 0) rfl (o := 0) rfl
  have c1 := S1.out.cell (i := 0) rfl (o := 1) rfl
  go_wp2_with fail
  refine (g2.out _ S1.out.below).mono ?_
  rintro e w2 ⟨rfl, hb2⟩
  have S2 := Lib.hid (S1.out.grow hb2)
  clear S1 g2 hb2 c0 c1
  have c0 := S2.out.cell (i := 0) rfl (o := 0) rfl
  have d0 := S2.out.cell (i := 1) rfl (o := 0) rfl
  have e0 : ((n : Int) != (n : Int)) = false := by simp
  go_wp2_with fail
  rw [hsh]
  go_loopw [6, 25] (fun _ vi wr => ∃ k : Nat, k ≤ N ∧ vi = .int .i64 k ∧ Hid ((List.range k).all (fun b => modT xss b == modT yss b) = true) ∧ Hid (Sp w wr [Box (w.heap.size + 1) 26 #[.int .i64 n, .slice C yss.length dap], Box w.heap.size 26 #[.int .i64 n, .slice A xss.length cap]])) (fun _ vi _ => N - (intOf vi).toNat)
  case atStart => exact ⟨0, Nat.zero_le _, rfl, rfl, S2⟩
  case round =>
    obtain ⟨k, hk, rfl, hall, HS⟩ := hrel
    clear S2 c0 d0
    by_cases hlt : k < N
    · have t0 : decide ((k : Int) < (N : Int)) = true := decide_eq_true (Int.ofNat_lt.2 hlt)
      have hk4 : k < 4096 := Nat.lt_of_lt_of_le hlt hp
      have k1 := cell_regrown (HS.out.cell (i := 0) rfl (o := 1) rfl)
      have k2 := cell_regrown (HS.out.cell (i := 1) rfl (o := 1) rfl)
      have hbel := Lib.hid HS.out.below
      have f1 := Lib.hid (fun W h => m1.out k hk4 W h)
      have f2 := Lib.hid (fun W h => m2.out k hk4 W h)
      have hnx := Lib.hid (all_next (p := fun b => modT xss b == modT yss b) (k := k))
      rw [hall.out, Bool.true_and] at hnx
      have hno := Lib.hid (fun h => all_no (p := fun b => modT xss b == modT yss b) hlt h)
      generalize modT xss k = q1 at *
      generalize modT yss k = q2 at *
      cases q1 <;> cases q2
      · go_wp2_with fail
        refine wp_region_quiet_below (by kernel_rfl) (by kernel_rfl) ?_
        repeat (any_goals (first | go_big_quiet_step ((go_at_call 107; first | exact Calls.regrown_of (f1.out _ (btr hbel.out (below_regrown _ _ _))) | exact Calls.regrown_of (f2.out _ (btr hbel.out (below_regrown _ _ _)))))))
        refine wpQuiet_nil ?_
        rintro w3 ⟨p, rfl⟩
        have HS4 := Lib.hid (HS.out.grow (below_regrown _ p.d p.os))
        clear HS k1 k2 f1 f2 hbel
        have hal2 : Hid ((List.range (k + 1)).all (fun b => modT xss b == modT yss b) = true) := hnx.out
        clear hnx hno
        go_wp2_with fail
        go_roundw
        case rel => exact ⟨k + 1, by omega, by go_num, hal2, HS4⟩
        case measure => simp [intOf]; omega
      · go_wp2_with fail
        refine wp_region_quiet_below (by kernel_rfl) (by kernel_rfl) ?_
        repeat (any_goals (first | go_big_quiet_step ((go_at_call 107; first | exact Calls.regrown_of (f1.out _ (btr hbel.out (below_regrown _ _ _))) | exact Calls.regrown_of (f2.out _ (btr hbel.out (below_regrown _ _ _)))))))
        refine wpQuiet_nil ?_
        rintro w3 ⟨p, rfl⟩
        have HS4 := Lib.hid (HS.out.grow (below_regrown _ p.d p.os))
        clear HS k1 k2 f1 f2 hbel
        have hz2 := hno.out (by decide)
        obtain rfl : z = false := by rw [← hz.out]; exact hz2
        have hB := Lib.hid HS4.out.below
        clear hnx hno hz2 HS4
        go_wp2_with fail
        go_ret2
        exact ⟨rfl, hB.out⟩
      · go_wp2_with fail
        refine wp_region_quiet_below (by kernel_rfl) (by kernel_rfl) ?_
        repeat (any_goals (first | go_big_quiet_step ((go_at_call 107; first | exact Calls.regrown_of (f1.out _ (btr hbel.out (below_regrown _ _ _))) | exact Calls.regrown_of (f2.out _ (btr hbel.out (below_regrown _ _ _)))))))
        refine wpQuiet_nil ?_
        rintro w3 ⟨p, rfl⟩
        have HS4 := Lib.hid (HS.out.grow (below_regrown _ p.d p.os))
        clear HS k1 k2 f1 f2 hbel
        have hz2 := hno.out (by decide)
        obtain rfl : z = false := by rw [← hz.out]; exact hz2
        have hB := Lib.hid HS4.out.below
        clear hnx hno hz2 HS4
        go_wp2_with fail
        go_ret2
        exact ⟨rfl, hB.out⟩
      · go_wp2_with fail
        refine wp_region_quiet_below (by kernel_rfl) (by kernel_rfl) ?_
        repeat (any_goals (first | go_big_quiet_step ((go_at_call 107; first | exact Calls.regrown_of (f1.out _ (btr hbel.out (below_regrown _ _ _))) | exact Calls.regrown_of (f2.out _ (btr hbel.out (below_regrown _ _ _)))))))
        refine wpQuiet_nil ?_
        rintro w3 ⟨p, rfl⟩
        have HS4 := Lib.hid (HS.out.grow (below_regrown _ p.d p.os))
        clear HS k1 k2 f1 f2 hbel
        have hal2 : Hid ((List.range (k + 1)).all (fun b => modT xss b == modT yss b) = true) := hnx.out
        clear hnx hno
        go_wp2_with fail
        go_roundw
        case rel => exact ⟨k + 1, by omega, by go_num, hal2, HS4⟩
        case measure => simp [intOf]; omega
    · obtain rfl : k = N := by omega
      have t0 : decide ((k : Int) < (k : Int)) = false := by simp
      obtain rfl : z = true := by rw [← hz.out]; exact hall.out
      have hB := Lib.hid HS.out.below
      clear HS
      go_wp2_with fail
      go_ret2
      exact ⟨rfl, hB.out⟩
end Go.Proofs.Ytmikconjhmhekaa
