/- Lemmas and contracts for a law, put together out of several texts: WalkModels. -/
import Derived.Test.YtmikconjhmhekaaMg6
import Derived.Test.YtmikconjhmhekaaMg7
import Derived.Test.YtmikconjhmhekaaMg8
import Derived.Deep.DeepCutAuto
/- The walk of FnModels. -/
namespace Go.Proofs.Ytmikconjhmhekaa
open Go.RowKit

theorem drew_size2 (w : World) : w.drew.heap.size = w.heap.size := rfl
theorem own_row_g {α : Type} {T : Ty α} {w : World} {v : Value} {B : Nat} {e : TypeId} {xs : List α} {cs : List Value} {G : List Nat} (h : w.ownsRow B e 1 v xs.length cs) (hT : T.size = 1) (hall : T.all false w cs xs G) : ∃ F, T.row false w v xs F := by
  rcases Nat.eq_zero_or_pos xs.length with h0 | h0
  · obtain rfl : xs = [] := List.length_eq_zero_iff.1 h0
    obtain ⟨a, c, rfl⟩ := own_slice h
    obtain ⟨hl, ⟨h1, _⟩ | ⟨g, cap, cur, h1, hg, hh, hn, hm, hcs, ht⟩⟩ := h
    · cases h1
      exact ⟨[], Ty.row_nil _ _ _ _ _ (by decide)⟩
    · cases h1
      exact ⟨[], Ty.row_nil _ _ _ _ _ (by unfold maxLen at hm; omega)⟩
  · obtain ⟨g, cap, cur, rfl, -, hh, hn, hm, -, ht⟩ := own_block h h0
    have hlen := h.1
    refine ⟨g :: G, _, cap, cs, G, rfl, hn, by unfold maxLen at hm; omega, hall, .inr ⟨by omega, by rintro rfl; simp at h0, g, 0, rfl, rfl, fun j hj => ⟨?_, fun e => by cases e⟩⟩⟩
    rw [Nat.zero_add, (own_at hh ht (o := j) (by omega)).1]
    exact List.getElem?_eq_getElem hj
theorem more_row {w0 W : World} {ps : List Asn} {i j k : Nat} {E D : Option Addr} {ec dc : Nat} {e : TypeId} {v : Value} {cs : List Value} {xss : List (List Int)} {d : List Int} (h : Sp w0 W ps) (hi : ps[i]? = some (Own 30 1 (.slice E (xss.length + 1) ec) (xss.length + 1) (cs ++ [.slice D d.length dc])))
    (hj : ps[j]? = some (Rows Ty.int e v cs xss)) (hk : ps[k]? = some (Own 3 1 (.slice D d.length dc) d.length (d.map (.int .i64)))) (hI : ∀ x ∈ d, I64 x) : ∃ G, (Ty.slice Ty.int).row false W (.slice E (xss.length + 1) ec) (xss ++ [d]) G := by
  obtain ⟨F, ⟨G, -, -, hall, -⟩, -⟩ := h.get hj
  obtain ⟨Fd, hrd, -, -⟩ := own_row (h.own hk) hI
  have h1 := Ty.all_append (Ty.all_down hall) (Ty.all_one (T := Ty.slice Ty.int) (c := [.slice D d.length dc]) ⟨_, rfl, Ty.row_down hrd⟩)
  have h2 := h.own hi
  rw [show xss.length + 1 = (xss ++ [d]).length by simp] at h2 ⊢
  exact own_row_g h2 rfl h1
theorem alloc_set2 (w : World) (a b x y : Value) (t : TypeId) : ((w.alloc (.cells #[a, b] t)).setCell ⟨w.heap.size, 0, none⟩ x).setCell ⟨w.heap.size, 1, none⟩ y = w.alloc (.cells #[x, y] t) := by
  unfold World.setCell World.alloc
  congr 1
  apply Array.ext_getElem?
  intro j
  rw [Array.getElem?_modify, Array.getElem?_modify, Array.getElem?_push, Array.getElem?_push]
  by_cases h : j = w.heap.size
  · subst h
    simp
  · rw [if_neg (fun e => h e.symm), if_neg (fun e => h e.symm), if_neg h, if_neg h]
theorem rows_src {α : Type} {T : Ty α} {w0 W : World} {ps : List Asn} {i : Nat} {e : TypeId} {B : Option Addr} {cap : Nat} {cs : List Value} {xss : List (List α)} (h : Sp w0 W ps) (hi : ps[i]? = some (Rows T e (.slice B xss.length cap) cs xss)) : Src W B xss.length 1 cs := by
  have ho := h.rows hi
  have hn : cs.length = xss.length := by have := ho.1; omega
  rcases Nat.eq_zero_or_pos xss.length with h0 | h0
  · exact .inl ⟨h0, List.length_eq_zero_iff.1 (by omega)⟩
  · obtain ⟨g, cap', cur, e1, -, hh, -, -, -, ht⟩ := own_block ho h0
    simp only [Value.slice.injEq] at e1
    obtain ⟨rfl, -, rfl⟩ := e1
    refine .inr ⟨_, rfl, by omega, fun j u hj => ?_⟩
    have hjl := (List.getElem?_eq_some_iff.1 hj).1
    rw [add_none, Nat.zero_add, (own_at hh ht (o := j) (by omega)).1]; exact hj
theorem all_one_cell {α : Type} {T : Ty α} {wr : Bool} {w : World} : ∀ {cs : List Value} {xss : List (List α)} {F : List Nat}, (Ty.slice T).all wr w cs xss F → ∀ u ∈ cs, u.oneCell' = true
  | _, [], _, h => by obtain ⟨rfl, _⟩ := h; simp
  | _, x :: xs, _, h => by
    obtain ⟨c, d, F1, F2, rfl, rfl, ⟨v, rfl, hr⟩, h2⟩ := h
    intro u hu
    rcases List.mem_append.1 hu with hu | hu
    · obtain rfl : u = v := by simpa using hu
      obtain ⟨a, cap, rfl, -, -⟩ := Ty.row_len hr
      rfl
    · exact all_one_cell h2 u hu
theorem rows_one {α : Type} {T : Ty α} {w0 W : World} {ps : List Asn} {i : Nat} {e : TypeId} {v : Value} {cs : List Value} {xss : List (List α)} (h : Sp w0 W ps) (hi : ps[i]? = some (Rows T e v cs xss)) : ∀ u ∈ cs, u.oneCell' = true := by
  obtain ⟨F, ⟨G, -, -, hall, -⟩, -⟩ := h.get hi
  exact all_one_cell hall
theorem mods_lt {p : Nat → Bool} {N : Nat} {i : Nat} (hi : i < (mods p N).length) : (mods p N)[i] < N := List.mem_range.1 (List.mem_filter.1 (List.getElem_mem hi)).1

set_option maxRecDepth 100000 in
set_option maxHeartbeats 16000000 in
theorem FnModels_walk (ca : Option Addr) (cl cc : Nat) (w : World) (hc : CodeOk w ca cl) :
    Calls Try.prog 3 #[.slice ca cl cc] w fun e w' => e = .returned (.bool true) ∧ Below w.heap.size w w' := by
  have hcH := Lib.hid hc
  clear hc
  by_cases hbig : (65536 : Int) < (cl : Int)
  · go_enter Try.func3, Try.ntmps3
    go_wp2_with fail
    refine (rBig_any _ _ _ _).mono ?_
    rintro e w1 ⟨rfl, rfl⟩
    rw [decide_eq_true hbig]
    go_wp2_with fail
    go_ret
    exact ⟨rfl, bb _⟩
  have hsm : cl ≤ 65536 := by omega
  have hv := Lib.hid (decide_eq_false hbig)
  clear hbig
  go_enter Try.func3, Try.ntmps3
  go_wp2_with fail
  refine (rBig_any _ _ _ _).mono ?_
  rintro e w1 ⟨rfl, rfl⟩
  rw [hv.out]
  clear hv
  go_wp2_with fail
  refine (drawBackboneOf_any ca cl cc w1 hcH.out hsm).mono ?_
  rintro e w2 ⟨vars, B, cap, cs, xss, rfl, hv0, hv1, hl, HC, T⟩
  obtain ⟨F, hrow, -⟩ := T.rows_done (i := 0) rfl
  replace hrow := Ty.row_down hrow
  obtain ⟨b_f, hbf⟩ : ∃ b, w2.heap.size = b := ⟨_, rfl⟩
  have S0 := (Sp.of_below T.below).alloc_box #[.int .i64 vars, .slice B xss.length cap] 26
  rw [hbf] at S0
  replace hrow := Ty.row_below hrow (bal (bb w2) (.cells #[.int .i64 vars, .slice B xss.length cap] 26)) (Ty.row_lt hrow)
  obtain ⟨W0, hW0⟩ : ∃ W, w2.alloc (.cells #[.int .i64 vars, .slice B xss.length cap] 26) = W := ⟨_, rfl⟩
  rw [hW0] at S0 hrow
  have hB0 := Lib.hid (bb W0)
  replace S0 := Lib.hid S0
  replace HC := Lib.hid HC
  clear T
  have hrow' := hrow
  have lift := fun W (h : Below W0.heap.size W0 W) => Ty.row_below hrow h (Ty.row_lt hrow)
  clear hrow hrow'
  cases hg : goodB vars xss
  · as_aux_lemma =>
      have q1 := Lib.hid (fun W h => hg ▸ countCnfNo_any vars _ xss F W (lift W h) hg)
      have q2 := Lib.hid (fun W h => specCountCnf_any vars _ xss F W (lift W h))
      have q3 := Lib.hid (fun W h => allModels_any vars _ xss F W (lift W h))
      have q4 := Lib.hid (fun W h => specAllModels_any vars _ xss F W (lift W h))
      simp only [hg, Bool.false_and, Bool.false_eq_true, if_false] at q1 q2 q3 q4
      clear lift HC
      have c0 := S0.out.cell (i := 0) rfl (o := 0) rfl
      have c1 := S0.out.cell (i := 0) rfl (o := 1) rfl
      go_wp2_with fail
      refine (q1.out _ hB0.out).mono ?_
      rintro e w3 ⟨rfl, hb3⟩
      have S3 := Lib.hid (S0.out.grow hb3)
      have hB3 := Lib.hid (btr hB0.out hb3)
      clear q1 S0 hB0 hb3 c0 c1
      have c0 := S3.out.cell (i := 0) rfl (o := 0) rfl
      have c1 := S3.out.cell (i := 0) rfl (o := 1) rfl
      go_wp2_with fail
      refine (q2.out _ hB3.out).mono ?_
      rintro e w4 ⟨rfl, hb4⟩
      have S4 := Lib.hid (S3.out.grow hb4)
      have hB4 := Lib.hid (btr hB3.out hb4)
      clear q2 S3 hB3 hb4 c0 c1
      have c0 := S4.out.cell (i := 0) rfl (o := 0) rfl
      have c1 := S4.out.cell (i := 0) rfl (o := 1) rfl
      go_wp2_with fail
      refine (q3.out _ hB4.out).mono ?_
      rintro e w5 ⟨A5, k5, rfl, hT5, hb5⟩
      have S5 := Lib.hid (S4.out.grow hb5)
      have hB5 := Lib.hid (btr hB4.out hb5)
      clear q3 S4 hB4 hb5 c0 c1
      have c0 := S5.out.cell (i := 0) rfl (o := 0) rfl
      have c1 := S5.out.cell (i := 0) rfl (o := 1) rfl
      go_wp2_with fail
      refine (q4.out _ hB5.out).mono ?_
      rintro e w6 ⟨A6, k6, rfl, hT6, hb6⟩
      have S6 := Lib.hid (S5.out.grow hb6)
      have hB6 := Lib.hid (btr hB5.out hb6)
      have hri := Lib.hid (rInts_same A5 A6 k5 k6 [] w6 (IntsAt.nil _ _) (IntsAt.nil _ _) (by simp))
      clear q4 S5 hB5 hb6 c0 c1 hT5 hT6
      go_wp2_with fail
      refine hri.out.mono ?_
      rintro e w7 ⟨rfl, hb7⟩
      have hB7 := Lib.hid (S6.out.grow hb7).below
      clear hri S6 hB6 hb7
      go_wp2_with fail
      go_ret
      exact ⟨rfl, hB7.out⟩
  have hgc := good_cnf hg
  obtain ⟨n, rfl⟩ := Int.eq_ofNat_of_zero_le hgc.1.1
  have hn : n ≤ 12 := by omega
  have hp := (pow12 hn).2
  have q1 := fun W h => countCnfModels_any n _ xss F W (lift W h) hg
  have q2 := fun W h => specCountCnf_any n _ xss F W (lift W h)
  have q3 := fun W h => allModels_any n _ xss F W (lift W h)
  have q4 := fun W h => specAllModels_any n _ xss F W (lift W h)
  have q5 := fun W h => firstModel_any n _ xss F W (lift W h)
  have q6 := fun W h => isSatisfiable_any n _ xss F W (lift W h)
  have q7 := fun W h => implBackbone_any n _ xss F W (lift W h)
  have q8 := fun W h => specBackbone_any n _ xss F W (lift W h)
  simp only [hg, Bool.true_and, if_true, show (n : Int).toNat = n by omega] at q1 q2 q3 q4 q5 q6 q7 q8
  have hlen := allN_len (modT xss) (2 ^ n)
  have hcnt := cntP_le (modT xss) (2 ^ n)
  have hpos := cnt_pos (p := modT xss) (N := 2 ^ n)
  have hfst := Lib.hid (fun h => all_first (p := modT xss) (N := 2 ^ n) h)
  have hby := Lib.hid (fun k (hk : k < n) => bone_yes (xss := xss) hk)
  have hbn := Lib.hid (fun k (hk : k < n) => bone_no (xss := xss) hk)
  have hbl := bone_len n xss n
  have hmm := Lib.hid (allN_eq (modT xss) (2 ^ n))
  have hml := Lib.hid (fun i (hi : i < (mods (modT xss) (2 ^ n)).length) => mods_lt hi)
  generalize 2 ^ n = N at *
  generalize allN (modT xss) N = al at *
  generalize cntP (modT xss) N = z at *
  generalize (List.range N).any (modT xss) = is at *
  generalize idxP (modT xss) (List.range N) = fi at *
  generalize boneTo n xss n = bs at *
  generalize mods (modT xss) N = ms at *
  clear lift
  obtain ⟨fine, hfine⟩ : ∃ q, decide (z ≤ 300) = q := ⟨_, rfl⟩
  rw [hfine] at q3 q4
  obtain ⟨zs, hzs⟩ : ∃ l, (if fine = true then al else []) = l := ⟨_, rfl⟩
  rw [hzs] at q3 q4
  obtain ⟨bt, hbt⟩ : ∃ l, (if is = true then bs else []) = l := ⟨_, rfl⟩
  rw [hbt] at q7 q8
  obtain ⟨ft, hft⟩ : ∃ l, (if is = true then fi else 0) = l := ⟨_, rfl⟩
  rw [hft] at q5
  have hzl : zs.length ≤ 300 := by
    rw [← hzs]
    cases fine
    · simp
    · have := of_decide_eq_true hfine
      simp only [if_true]; omega
  have hbl2 : bt.length ≤ 24 := by
    rw [← hbt]
    cases is
    · simp
    · simp only [if_true]; omega
  have hfz : Hid (fine = true → (zs.length : Int) = (z : Int)) := fun h => by
    subst h
    rw [← hzs, if_pos rfl, hlen]
  replace q1 := Lib.hid q1
  replace q2 := Lib.hid q2
  replace q3 := Lib.hid q3
  replace q4 := Lib.hid q4
  replace q5 := Lib.hid q5
  replace q6 := Lib.hid q6
  replace q7 := Lib.hid q7
  replace q8 := Lib.hid q8
  replace hzs := Lib.hid hzs
  replace hbt := Lib.hid hbt
  replace hft := Lib.hid hft
  replace hlen := Lib.hid hlen
  replace hfine := Lib.hid hfine
  replace hpos := Lib.hid hpos
  clear hbl hgc
  have hz4 : z ≤ 4096 := by omega
  clear hcnt
  obtain ⟨zi, hzi⟩ : ∃ zi : Int, (z : Int) = zi := ⟨_, rfl⟩
  rw [hzi] at q1 q2 hfz
  replace hzi := Lib.hid hzi
  have e1 : (zi != zi) = false := by simp
  have e2 : (fine != fine) = false := by cases fine <;> rfl
  have c0 := S0.out.cell (i := 0) rfl (o := 0) rfl
  have c1 := S0.out.cell (i := 0) rfl (o := 1) rfl
  go_wp2_with fail
  refine (q1.out _ hB0.out).mono ?_
  rintro e w3 ⟨rfl, hb3⟩
  have S3 := Lib.hid (S0.out.grow hb3)
  have hB3 := Lib.hid (btr hB0.out hb3)
  clear q1 S0 hB0 hb3 c0 c1
  have c0 := S3.out.cell (i := 0) rfl (o := 0) rfl
  have c1 := S3.out.cell (i := 0) rfl (o := 1) rfl
  go_wp2_with fail
  refine (q2.out _ hB3.out).mono ?_
  rintro e w4 ⟨rfl, hb4⟩
  have S4 := Lib.hid (S3.out.grow hb4)
  have hB4 := Lib.hid (btr hB3.out hb4)
  clear q2 S3 hB3 hb4 c0 c1
  have c0 := S4.out.cell (i := 0) rfl (o := 0) rfl
  have c1 := S4.out.cell (i := 0) rfl (o := 1) rfl
  go_wp2_with fail
  refine (q3.out _ hB4.out).mono ?_
  rintro e w5 ⟨A5, k5, rfl, hT5, hb5⟩
  have S5 := Lib.hid (S4.out.grow hb5)
  have hB5 := Lib.hid (btr hB4.out hb5)
  replace hT5 := Lib.hid hT5
  clear q3 S4 hB4 hb5 c0 c1
  have c0 := S5.out.cell (i := 0) rfl (o := 0) rfl
  have c1 := S5.out.cell (i := 0) rfl (o := 1) rfl
  go_wp2_with fail
  refine (q4.out _ hB5.out).mono ?_
  rintro e w6 ⟨A6, k6, rfl, hT6, hb6⟩
  have S6 := Lib.hid (S5.out.grow hb6)
  have hB6 := Lib.hid (btr hB5.out hb6)
  have hU6 := Lib.hid (hT5.out.grow hb6)
  have hri := Lib.hid (rInts_same A5 A6 k5 k6 zs w6 hU6.out hT6 (by omega))
  clear q4 S5 hB5 hb6 c0 c1 hT5 hT6
  go_upto_region 10 with fail
  go_cut [82] (fun s wx => s = .bool false ∧ Hid (Below w6.heap.size w6 wx))
  case first =>
    as_aux_lemma =>
      cases fine
      · go_wp2_with fail
        refine hri.out.mono ?_
        rintro e w7 ⟨rfl, hb7⟩
        replace hb7 := Lib.hid hb7
        go_wp2_with fail
        go_meet
        exact ⟨rfl, hb7⟩
      · have hzz := hfz.out rfl
        go_wp2_with fail
        refine hri.out.mono ?_
        rintro e w7 ⟨rfl, hb7⟩
        replace hb7 := Lib.hid hb7
        go_wp2_with fail
        go_meet
        exact ⟨rfl, hb7⟩
  case rest =>
  obtain ⟨rfl, hb7⟩ := hcut
  have S7 := Lib.hid (S6.out.grow hb7.out)
  have hB7 := Lib.hid (btr hB6.out hb7.out)
  have hU7 := Lib.hid (hU6.out.grow hb7.out)
  clear hri S6 hB6 hU6 hb7
  have c0 := S7.out.cell (i := 0) rfl (o := 0) rfl
  have c1 := S7.out.cell (i := 0) rfl (o := 1) rfl
  go_wp2_with fail
  refine (q5.out _ hB7.out).mono ?_
  rintro e w8 ⟨rfl, hb8⟩
  have S8 := Lib.hid (S7.out.grow hb8)
  have hB8 := Lib.hid (btr hB7.out hb8)
  have hU8 := Lib.hid (hU7.out.grow hb8)
  clear q5 S7 hB7 hU7 hb8 c0 c1
  have c0 := S8.out.cell (i := 0) rfl (o := 0) rfl
  have c1 := S8.out.cell (i := 0) rfl (o := 1) rfl
  go_wp2_with fail
  refine (q6.out _ hB8.out).mono ?_
  rintro e w9 ⟨rfl, hb9⟩
  have S9 := Lib.hid (S8.out.grow hb9)
  have hB9 := Lib.hid (btr hB8.out hb9)
  have hU9 := Lib.hid (hU8.out.grow hb9)
  clear q6 S8 hB8 hU8 hb9 c0 c1
  go_upto_region 16 with fail
  go_cut [120] (fun s wx => s = .bool false ∧ wx = w9)
  case first =>
    as_aux_lemma =>
      clear q7 q8 hby hbn hbt hmm hml
      have dz : decide ((0 : Int) < zi) = is := by
        rw [← hpos.out, ← hzi.out]
        exact decide_eq_decide.2 (by omega)
      cases is
      · clear hfst hU9 hft hzs hfine
        cases fine
        all_goals
          go_wp2_with fail
          go_meet
          exact ⟨rfl, rfl⟩
      · obtain ⟨m, hm1, hm2⟩ := hfst.out rfl
        have hfm : ft = (m : Int) := by rw [← hft.out, ← hm2]; rfl
        cases fine
        · clear hfst hU9 hft hzs hfine hm1 hm2 hfm
          go_wp2_with fail
          go_meet
          exact ⟨rfl, rfl⟩
        · have hz0 : zs = al := by rw [← hzs.out]; rfl
          rw [← hz0] at hm1
          have h0 : 0 < zs.length := (List.getElem?_eq_some_iff.1 hm1).1
          obtain ⟨ab, off, hA, m0⟩ := hU9.out.at_ 0 h0
          rw [List.getElem?_eq_getElem h0] at hm1
          simp only [Option.some.injEq] at hm1
          rw [hm1, Nat.add_zero] at m0
          have e3 : (ft != (m : Int)) = false := by rw [hfm]; simp
          clear hfst hU9 hft hzs hfine hm1 hm2 hz0 hfm
          subst hA
          go_wp2_with fail
          go_meet
          exact ⟨rfl, rfl⟩
  case rest =>
  obtain ⟨rfl, hww⟩ := hcut
  subst hww
  have c0 := S9.out.cell (i := 0) rfl (o := 0) rfl
  have c1 := S9.out.cell (i := 0) rfl (o := 1) rfl
  go_wp2_with fail
  refine (q7.out _ hB9.out).mono ?_
  rintro e w10 ⟨A10, k10, rfl, hT10, hb10⟩
  have S10 := Lib.hid (S9.out.grow hb10)
  have hB10 := Lib.hid (btr hB9.out hb10)
  have hU10 := Lib.hid (hU9.out.grow hb10)
  replace hT10 := Lib.hid hT10
  clear q7 S9 hB9 hU9 hb10 c0 c1
  have c0 := S10.out.cell (i := 0) rfl (o := 0) rfl
  have c1 := S10.out.cell (i := 0) rfl (o := 1) rfl
  go_wp2_with fail
  refine (q8.out _ hB10.out).mono ?_
  rintro e w11 ⟨A11, k11, rfl, hT11, hb11⟩
  have S11 := Lib.hid (S10.out.grow hb11)
  have hB11 := Lib.hid (btr hB10.out hb11)
  have hU11 := Lib.hid (hU10.out.grow hb11)
  have hV11 := Lib.hid (hT10.out.grow hb11)
  have hri := Lib.hid (rInts_same A10 A11 k10 k11 bt w11 hV11.out hT11 (by omega))
  clear q8 S10 hB10 hU10 hb11 hT10 hT11 c0 c1
  have e4 : (is != is) = false := by cases is <;> rfl
  go_wp2_with fail
  refine hri.out.mono ?_
  rintro e w12 ⟨rfl, hb12⟩
  have S12 := Lib.hid (S11.out.grow hb12)
  have hB12 := Lib.hid (btr hB11.out hb12)
  have hU12 := Lib.hid (hU11.out.grow hb12)
  have hV12 := Lib.hid (hV11.out.grow hb12)
  clear hri S11 hB11 hU11 hV11 hb12
  have c0 := S12.out.cell (i := 0) rfl (o := 0) rfl
  go_upto_region 22 with fail
  go_cut [148] (fun s wx => s = .bool (fine && is) ∧ wx = w12)
  case first =>
    as_aux_lemma =>
      cases fine
      · go_wp2_with fail
        go_meet
        exact ⟨rfl, rfl⟩
      · cases is
        all_goals
          go_wp2_with fail
          go_meet
          exact ⟨rfl, rfl⟩
  case rest =>
  obtain ⟨rfl, hww⟩ := hcut
  subst hww
  obtain ⟨fi2, hfi2⟩ : ∃ q, (fine && is) = q := ⟨_, rfl⟩
  rw [hfi2]
  replace hfi2 := Lib.hid hfi2
  go_upto_if 148 with fail
  go_cut [] (fun wx => Hid (Sp w1 wx [Box b_f 26 #[.int .i64 n, .slice B xss.length cap]]))
  case first =>
    cases fi2
    · go_wp2_with fail
      go_meet
      exact S12
    · obtain ⟨hf1, hi1⟩ : fine = true ∧ is = true := Bool.and_eq_true_iff.1 hfi2.out
      have hz0 : Hid (zs = ms.map fun (m : Nat) => (m : Int)) := by
        unfold Hid; rw [← hmm.out, ← hzs.out, hf1, if_pos rfl]
      have hb0 : bt = bs := by rw [← hbt.out, hi1, if_pos rfl]
      rw [← hb0] at hby hbn
      have hzm : Hid (zs.length = ms.length) := by unfold Hid; rw [hz0.out, List.length_map]
      clear hf1 hi1 hb0 hfi2 hmm hbt hzs hft hlen hfst hfz hfine hpos
      as_aux_lemma =>
        go_wp2_with fail
        go_loopw [20, 21, 22, 23] (fun vv _ _ _ wr => ∃ (k : Nat) (z : Int), k ≤ n ∧ 1 ≤ z ∧ z ≤ 13 ∧ Hid ((k : Int) + 1 = z) ∧ vv = .int .i64 z ∧ wr = wc) (fun vv _ _ _ _ => 20 - (intOf vv).toNat)
        case atStart => exact ⟨0, 1, Nat.zero_le _, by decide, by decide, rfl, rfl, rfl⟩
        case round =>
          obtain ⟨k, z, hk, hz1, hz2, hkz, rfl, rfl⟩ := hrel
          by_cases hlt : z ≤ (n : Int)
          · have d0 : decide (z ≤ (n : Int)) = true := decide_eq_true hlt
            have hkn : k < n := by have := hkz.out; omega
            have hw1 : IntKind.i64.wrap (z - 1) = (k : Int) := by rw [IntWalk.i64_in _ (by omega)]; have := hkz.out; omega
            have hw2 : IntKind.i64.wrap (k : Int) = (k : Int) := IntWalk.i64_in _ (by omega)
            have hw3 : IntKind.i64.wrap (-z) = -z := IntWalk.i64_in _ (by omega)
            have hw4 : IntKind.i64.wrap (z + 1) = z + 1 := IntWalk.i64_in _ (by omega)
            have hy1 := hby.out k hkn
            have hn1 := hbn.out k hkn
            rw [hkz.out] at hy1 hn1
            have hr1 := rHas_any A10 k10 bt z wr hV12.out (by omega)
            have hr2 := rHas_any A10 k10 bt (-z) wr hV12.out (by omega)
            rw [hy1] at hr1
            rw [hn1] at hr2
            replace hr1 := Lib.hid hr1
            replace hr2 := Lib.hid hr2
            clear hy1 hn1
            have hbit : Hid (∀ b : Nat, b < 4096 → bits .and .i64 ((b : Int) / 2 ^ k) 1 = if b.testBit k then 1 else 0) := fun b hb => by
              have hand := bit_at b (Nat.lt_trans hb (by decide)) k
              rw [Nat.min_eq_left (by omega)] at hand
              exact hand
            go_wp2_with fail
            go_loopw [21, 22, 23] (fun vy vn vi wx => ∃ (i : Nat) (y x : Bool), i ≤ zs.length ∧ vi = .int .i64 i ∧ vy = .bool y ∧ vn = .bool x ∧ Hid (y = (ms.take i).all fun b => b.testBit k) ∧ Hid (x = (ms.take i).all fun b => !b.testBit k) ∧ wx = wr) (fun _ _ vi _ => zs.length - (intOf vi).toNat)
            case atStart => exact ⟨0, true, true, Nat.zero_le _, rfl, rfl, rfl, rfl, rfl, rfl⟩
            case round =>
              obtain ⟨i, y, x, hi, rfl, rfl, rfl, hy, hx, rfl⟩ := hrel
              by_cases hlt3 : i < zs.length
              · have hlt2 : i < ms.length := by rw [← hzm.out]; exact hlt3
                obtain ⟨ab, off, hA, m0⟩ := hU12.out.at_ i hlt3
                have hme : zs[i] = (ms[i] : Int) := by simp [hz0.out]
                rw [hme] at m0
                have hm4 : ms[i] < 4096 := Nat.lt_of_lt_of_le (hml.out i hlt2) hp
                have hand := hbit.out ms[i] hm4
                have hny := all_take_next (p := fun b => b.testBit k) hlt2
                have hnx := all_take_next (p := fun b => !b.testBit k) hlt2
                clear hme
                generalize ms[i] = b at *
                rw [← hy.out] at hny
                rw [← hx.out] at hnx
                generalize b.testBit k = q at *
                subst hA
                cases q
                · simp only [Bool.false_eq_true, if_false] at hand
                  rw [Bool.and_false] at hny
                  rw [Bool.not_false, Bool.and_true] at hnx
                  replace hny := Lib.hid hny.symm
                  replace hnx := Lib.hid hnx.symm
                  go_wp2_with fail
                  go_roundw
                  case rel => exact ⟨i + 1, false, x, by omega, by go_num, rfl, rfl, hny, hnx, trivial⟩
                  case measure => simp [intOf]; omega
                · simp only [if_true] at hand
                  rw [Bool.and_true] at hny
                  rw [Bool.not_true, Bool.and_false] at hnx
                  replace hny := Lib.hid hny.symm
                  replace hnx := Lib.hid hnx.symm
                  go_wp2_with fail
                  go_roundw
                  case rel => exact ⟨i + 1, y, false, by omega, by go_num, rfl, rfl, hny, hnx, trivial⟩
                  case measure => simp [intOf]; omega
              · obtain rfl : i = zs.length := by omega
                have hy2 := hy.out
                have hx2 := hx.out
                rw [hzm.out, List.take_length] at hy2 hx2
                rw [← hy2] at hr1
                rw [← hx2] at hr2
                have e5 : (y != y) = false := by cases y <;> rfl
                have e6 : (x != x) = false := by cases x <;> rfl
                clear hy2 hx2 hy hx
                go_wp2_with fail
                refine hr1.out.mono ?_
                rintro e w13 ⟨rfl, hww⟩
                subst hww
                go_wp2_with fail
                refine hr2.out.mono ?_
                rintro e w14 ⟨rfl, hww⟩
                subst hww
                go_wp2_with fail
                go_roundw
                case rel => exact ⟨k + 1, z + 1, hkn, by omega, by omega, by have := hkz.out; unfold Hid; omega, rfl, trivial⟩
                case measure => simp [intOf]; omega
          · have d0 : decide (z ≤ (n : Int)) = false := decide_eq_false hlt
            go_wp2_with fail
            go_meet
            exact S12
  case rest =>
  clear S12 hU12 hV12 hby hbn hmm hml hfst hbt hft hzs hlen hpos hfz hfine hfi2 c0
  have HS := hcut
  clear hcut
  obtain ⟨i0, hi, hz0, hz1, hz2⟩ := info_parts infoRow
  go_wp2_with fail
  refine (drawImplies_any ca cl cc _ (hcH.out.grow HS.out.below) hsm).mono ?_
  rintro e w13 ⟨vg, Bg, capg, csg, yss, D, dc, d, rfl, hg0, hg1, hgl, hGC, hdl, hdI, T13⟩
  obtain ⟨b_g, hbg⟩ : ∃ b, w13.heap.size = b := ⟨_, rfl⟩
  have S13 := (HS.out.seq T13).alloc_box #[.int .i64 vg, .slice Bg yss.length capg] 26
  rw [hbg] at S13
  clear HS T13
  obtain ⟨W13, hW13⟩ : ∃ W, w13.alloc (.cells #[.int .i64 vg, .slice Bg yss.length capg] 26) = W := ⟨_, rfl⟩
  rw [hW13] at S13
  obtain ⟨Fg, hrg, -⟩ := S13.rows_done (i := 2) rfl
  obtain ⟨Fd, hrd, -, -⟩ := own_row (S13.own (i := 1) rfl) hdI
  have q1 := fun W (h : Below W13.heap.size W13 W) => implImplies_any vg _ yss d D dc Fg Fd W (Ty.row_grow (Ty.row_down hrg) h) (Ty.row_grow (Ty.row_down hrd) h)
  have q2 := fun W (h : Below W13.heap.size W13 W) => specImplies_any vg _ yss d D dc Fg Fd W (Ty.row_grow (Ty.row_down hrg) h) (Ty.row_grow (Ty.row_down hrd) h)
  obtain ⟨told, hto⟩ : ∃ q, (goodB vg yss && clauseB vg d) = q := ⟨_, rfl⟩
  simp only [hto] at q1 q2
  obtain ⟨im, him⟩ : ∃ q, (told && impB vg.toNat yss d) = q := ⟨_, rfl⟩
  simp only [him] at q1 q2
  clear hrg hrd
  replace q1 := Lib.hid q1
  replace q2 := Lib.hid q2
  replace hto := Lib.hid hto
  replace him := Lib.hid him
  have hdH := Lib.hid hdI
  have S14 : Hid (Sp w1 W13 [Box b_g 26 #[.int .i64 vg, .slice Bg yss.length capg], Own 3 1 (.slice D d.length dc) d.length (d.map (.int .i64)), Rows Ty.int 30 (.slice Bg yss.length capg) csg yss, Box b_f 26 #[.int .i64 n, .slice B xss.length cap]]) := S13
  have hB13 := Lib.hid (bb W13)
  clear S13 hdI hGC
  have e7 : (im != im) = false := by cases im <;> rfl
  have e8 : (told != told) = false := by cases told <;> rfl
  have c0 := S14.out.cell (i := 0) rfl (o := 0) rfl
  have c1 := S14.out.cell (i := 0) rfl (o := 1) rfl
  go_wp2_with fail
  refine (q1.out _ hB13.out).mono ?_
  rintro e w14 ⟨rfl, hb14⟩
  have S15 := Lib.hid (S14.out.grow hb14)
  have hB14 := Lib.hid (btr hB13.out hb14)
  clear q1 S14 hB13 hb14 c0 c1
  have c0 := S15.out.cell (i := 0) rfl (o := 0) rfl
  have c1 := S15.out.cell (i := 0) rfl (o := 1) rfl
  go_wp2_with fail
  refine (q2.out _ hB14.out).mono ?_
  rintro e w15 ⟨rfl, hb15⟩
  have S16 := Lib.hid (S15.out.grow hb15)
  clear q2 S15 hB14 hb15 c0 c1
  have c0 := S16.out.cell (i := 0) rfl (o := 0) rfl
  have c1 := S16.out.cell (i := 0) rfl (o := 1) rfl
  go_upto_region 40 with fail
  go_cut [214] (fun s wx => ∃ b, s = .bool b ∧ Hid (b = true → told = true ∧ yss.length < 60) ∧ wx = w15)
  case first =>
    as_aux_lemma =>
      by_cases hlt : (yss.length : Int) < 60
      · have d0 : decide ((yss.length : Int) < 60) = true := decide_eq_true hlt
        cases told
        · go_wp2_with fail
          go_meet
          exact ⟨false, rfl, (fun h => by cases h), rfl⟩
        · go_wp2_with fail
          go_meet
          exact ⟨true, rfl, fun _ => ⟨rfl, by omega⟩, rfl⟩
      · have d0 : decide ((yss.length : Int) < 60) = false := decide_eq_false hlt
        cases told
        · go_wp2_with fail
          go_meet
          exact ⟨false, rfl, (fun h => by cases h), rfl⟩
        · go_wp2_with fail
          go_meet
          exact ⟨false, rfl, (fun h => by cases h), rfl⟩
  case rest =>
  obtain ⟨b, rfl, hb, hww⟩ := hcut
  subst hww
  cases b
  · have hB := Lib.hid S16.out.below
    clear S16 c0 c1
    go_wp2_with fail
    go_ret
    exact ⟨rfl, hB.out⟩
  obtain ⟨htold, hy60⟩ := hb.out rfl
  have hgd : goodB vg yss = true ∧ clauseB vg d = true := Bool.and_eq_true_iff.1 (hto.out.trans htold)
  have himp : impB vg.toNat yss d = im := by rw [← him.out, htold]; rfl
  clear hb htold hto him
  have hus1 : Hid (∀ u ∈ csg, u.oneCell' = true) := rows_one S16.out (i := 2) rfl
  go_upto_region 41 with fail
  go_cut [30] (fun v wx => ∃ hb E ec, v = .pointer (some ⟨hb, 0, none⟩) ∧ Hid (Sp w1 wx [Own 30 1 (.slice E (yss.length + 1) ec) (yss.length + 1) (csg ++ [.slice D d.length dc]), Box hb 26 #[.int .i64 vg, .slice E (yss.length + 1) ec], Box b_g 26 #[.int .i64 vg, .slice Bg yss.length capg], Own 3 1 (.slice D d.length dc) d.length (d.map (.int .i64)), Rows Ty.int 30 (.slice Bg yss.length capg) csg yss, Box b_f 26 #[.int .i64 n, .slice B xss.length cap]]))
  case first =>
    as_aux_lemma =>
      -- region 41 begins
      refine wp_region_tail_lit (S := (fun w' => w'.cell? ⟨b_g, 0, none⟩ = some (.int .i64 vg) ∧ w'.cell? ⟨b_g, 1, none⟩ = some (.slice Bg yss.length capg))) 11 [false, false, false, false, false, false, false, false, false, false, false, false] (by kernel_rfl) (by kernel_rfl) (by kernel_rfl) ?_ ?_
      · exact ⟨S16.out.cell (i := 0) rfl (o := 0) rfl, S16.out.cell (i := 0) rfl (o := 1) rfl⟩
      intro hS0
      (refine walkT_take (i := 0) (v := ?_) rfl (by kernel_rfl) (by decide) (by kernel_rfl) (by kernel_rfl) (fun _ _ _ h => h) (Or.inl ⟨by rfl, ?_⟩) (by assumption) ?_; rotate_left; (focus (intro w hSw; (try dsimp only at hSw); go_simp; (try with_reducible rfl); done)); (try simp only [put_rules]))
      (refine walkT_take (i := 1) (v := ?_) rfl (by kernel_rfl) (by decide) (by kernel_rfl) (by kernel_rfl) (fun _ _ _ h => h) (Or.inl ⟨by rfl, ?_⟩) (by assumption) ?_; rotate_left; (focus (intro w hSw; (try dsimp only at hSw); go_simp; (try with_reducible rfl); done)); (try simp only [put_rules]))
      (refine walkT_take (i := 3) (v := ?_) rfl (by kernel_rfl) (by decide) (by kernel_rfl) (by kernel_rfl) (fun _ _ _ h => h) (Or.inl ⟨by rfl, ?_⟩) (by assumption) ?_; rotate_left; (focus (intro w hSw; (try dsimp only at hSw); go_simp; (try with_reducible rfl); done)); (try simp only [put_rules]))
      (refine walkT_take (i := 4) (v := ?_) rfl (by kernel_rfl) (by decide) (by kernel_rfl) (by kernel_rfl) (fun _ _ _ h => h) (Or.inl ⟨by rfl, ?_⟩) (by assumption) ?_; rotate_left; (focus (intro w hSw; (try dsimp only at hSw); go_simp; (try with_reducible rfl); done)); (try simp only [put_rules]))
      (refine walkT_take (i := 6) (v := ?_) rfl (by kernel_rfl) (by decide) (by kernel_rfl) (by kernel_rfl) (fun _ _ _ h => h) (Or.inl ⟨by rfl, ?_⟩) (by assumption) ?_; rotate_left; (focus (intro w hSw; (try dsimp only at hSw); go_simp; (try with_reducible rfl); done)); (try simp only [put_rules]))
      have Sd0 := Lib.hid S16.out.drew
      clear S16
      (refine walkT_ready (rs := [2, 7, 10]) (by kernel_rfl) (by simp) (by decide) ?_; refine AllT.cons rfl (fun K hK => ?_) (AllT.cons rfl (fun K hK => ?_) (AllT.cons rfl (fun K hK => ?_) AllT.nil)))
      · go_simp
        have Sd1 := Sd0.out.own_made 30 1
        (try simp only [World.size_alloc, drew_size2] at Sd1)
        replace Sd1 := Lib.hid Sd1
        clear Sd0
        refine hK.out _ _ ⟨Sd1.out.cell (i := 1) rfl (o := 0) rfl, Sd1.out.cell (i := 1) rfl (o := 1) rfl⟩ (fun hS1 => ?_)
        clear hK
        (try simp only [put_rules])
        (refine walkT_ready (rs := [5, 7, 10]) (by kernel_rfl) (by simp) (by decide) ?_; refine AllT.cons rfl (fun K hK => ?_) (AllT.cons rfl (fun K hK => ?_) (AllT.cons rfl (fun K hK => ?_) AllT.nil)))
        · (refine step_append_src rfl _ _ rfl Try.underlying24 hi hz0 hz1 hz2 rfl (by decide) _ 0 _ rfl (Sd1.out.own (i := 0) rfl) Bg yss.length capg csg rfl (rows_src Sd1.out (i := 3) rfl) hus1.out (by unfold maxLen; omega) (by omega) ?_; intro vA wA hownA hgA hatA)
          have Sd2 := Sd1.out.own_push (i := 0) rfl (bb _) hownA hgA hatA
          obtain ⟨aA, cA, rfl⟩ := owns_form hownA
          rw [Nat.zero_add, List.nil_append] at Sd2
          clear hownA hgA hatA
          simp only [Nat.zero_add]
          replace Sd2 := Lib.hid Sd2
          clear Sd1
          refine hK.out _ _ ⟨Sd2.out.cell (i := 1) rfl (o := 0) rfl, Sd2.out.cell (i := 1) rfl (o := 1) rfl⟩ (fun hS2 => ?_)
          clear hK
          (try simp only [put_rules])
          (refine walkT_ready (rs := [7, 10]) (by kernel_rfl) (by simp) (by decide) ?_; refine AllT.cons rfl (fun K hK => ?_) (AllT.cons rfl (fun K hK => ?_) AllT.nil))
          · go_simp
            have Sd3 := Sd2.out.alloc_box #[.slice D d.length dc] 30
            (try simp only [World.size_alloc, drew_size2] at Sd3)
            replace Sd3 := Lib.hid Sd3
            clear Sd2
            refine hK.out _ _ ⟨Sd3.out.cell (i := 2) rfl (o := 0) rfl, Sd3.out.cell (i := 2) rfl (o := 1) rfl⟩ (fun hS3 => ?_)
            clear hK
            (try simp only [put_rules])
            (refine walkT_ready (rs := [8, 10]) (by kernel_rfl) (by simp) (by decide) ?_; refine AllT.cons rfl (fun K hK => ?_) (AllT.cons rfl (fun K hK => ?_) AllT.nil))
            · (refine step_append_src rfl _ _ rfl Try.underlying24 hi hz0 hz1 hz2 rfl (by decide) _ yss.length _ rfl (Sd3.out.own (i := 1) rfl) _ 1 1 [.slice D d.length dc] rfl (Src.one (Sd3.out.cell (i := 0) rfl (o := 0) rfl)) (by simp [Value.oneCell']) (by unfold maxLen; omega) (by omega) ?_; intro vB wB hownB hgB hatB)
              have Sd4 := Sd3.out.own_push (i := 1) rfl (bb _) hownB hgB hatB
              obtain ⟨aB, cB, rfl⟩ := owns_form hownB
              clear hownB hgB hatB
              replace Sd4 := Lib.hid Sd4
              clear Sd3
              refine hK.out _ _ ⟨Sd4.out.cell (i := 2) rfl (o := 0) rfl, Sd4.out.cell (i := 2) rfl (o := 1) rfl⟩ (fun hS4 => ?_)
              clear hK
              (try simp only [put_rules])
              (refine walkT_take (i := 9) (v := ?_) rfl (by kernel_rfl) (by decide) (by kernel_rfl) (by kernel_rfl) (fun _ _ _ h => h) (Or.inl ⟨by rfl, ?_⟩) (by assumption) ?_; rotate_left; (focus (intro w hSw; (try dsimp only at hSw); go_simp; (try with_reducible rfl); done)); (try simp only [put_rules]))
              (refine walkT_ready (rs := [10]) (by kernel_rfl) (by simp) (by decide) ?_; refine AllT.cons rfl (fun K hK => ?_) AllT.nil)
              go_simp
              have Sd5 := Sd4.out.alloc_box #[.int .i64 0, .slice none 0 0] 26
              (try simp only [World.size_alloc, drew_size2] at Sd5)
              replace Sd5 := Lib.hid Sd5
              clear Sd4
              refine hK.out _ _ ⟨Sd5.out.cell (i := 3) rfl (o := 0) rfl, Sd5.out.cell (i := 3) rfl (o := 1) rfl⟩ (fun hS5 => ?_)
              clear hK
              (try simp only [put_rules])
              (refine walkT_done (by kernel_rfl) ?_)
              simp only [List.drop_succ_cons, List.drop_zero]
              have j0 := Sd5.out.cell (i := 0) rfl (o := 0) rfl
              have j1 := Sd5.out.cell (i := 0) rfl (o := 1) rfl
              have q0 := Sd5.out.frozen (i := 0) rfl 0
              have q1 := Sd5.out.frozen (i := 0) rfl 1
              have SF := (Sd5.out.store (i := 0) rfl 0 (.int .i64 vg)).store (i := 0) rfl 1 (.slice aB (yss.length + 1) cB)
              have SG : Hid (Sp w1 _ [Own 30 1 (.slice aB (yss.length + 1) cB) (yss.length + 1) (csg ++ [.slice D d.length dc]), Box _ 26 #[.int .i64 vg, .slice aB (yss.length + 1) cB], Box b_g 26 #[.int .i64 vg, .slice Bg yss.length capg], Own 3 1 (.slice D d.length dc) d.length (d.map (.int .i64)), Rows Ty.int 30 (.slice Bg yss.length capg) csg yss, Box b_f 26 #[.int .i64 n, .slice B xss.length cap]]) := Sp.pick [2, 0, 1, 1, 1, 1] SF rfl
              rw [alloc_set2] at SG
              clear SF Sd5
              go_wp2_with fail
              go_meet
              exact ⟨_, _, _, rfl, SG⟩
            · go_simp
              have Sd6 := Sd3.out.alloc_box #[.int .i64 0, .slice none 0 0] 26
              (try simp only [World.size_alloc, drew_size2] at Sd6)
              replace Sd6 := Lib.hid Sd6
              clear Sd3
              refine hK.out _ _ ⟨Sd6.out.cell (i := 3) rfl (o := 0) rfl, Sd6.out.cell (i := 3) rfl (o := 1) rfl⟩ (fun hS6 => ?_)
              clear hK
              (try simp only [put_rules])
              (refine walkT_ready (rs := [8]) (by kernel_rfl) (by simp) (by decide) ?_; refine AllT.cons rfl (fun K hK => ?_) AllT.nil)
              (refine step_append_src rfl _ _ rfl Try.underlying24 hi hz0 hz1 hz2 rfl (by decide) _ yss.length _ rfl (Sd6.out.own (i := 2) rfl) _ 1 1 [.slice D d.length dc] rfl (Src.one (Sd6.out.cell (i := 1) rfl (o := 0) rfl)) (by simp [Value.oneCell']) (by unfold maxLen; omega) (by omega) ?_; intro vB wB hownB hgB hatB)
              have Sd7 := Sd6.out.own_push (i := 2) rfl (bb _) hownB hgB hatB
              obtain ⟨aB, cB, rfl⟩ := owns_form hownB
              clear hownB hgB hatB
              replace Sd7 := Lib.hid Sd7
              clear Sd6
              refine hK.out _ _ ⟨Sd7.out.cell (i := 3) rfl (o := 0) rfl, Sd7.out.cell (i := 3) rfl (o := 1) rfl⟩ (fun hS7 => ?_)
              clear hK
              (try simp only [put_rules])
              (refine walkT_take (i := 9) (v := ?_) rfl (by kernel_rfl) (by decide) (by kernel_rfl) (by kernel_rfl) (fun _ _ _ h => h) (Or.inl ⟨by rfl, ?_⟩) (by assumption) ?_; rotate_left; (focus (intro w hSw; (try dsimp only at hSw); go_simp; (try with_reducible rfl); done)); (try simp only [put_rules]))
              (refine walkT_done (by kernel_rfl) ?_)
              simp only [List.drop_succ_cons, List.drop_zero]
              have j0 := Sd7.out.cell (i := 0) rfl (o := 0) rfl
              have j1 := Sd7.out.cell (i := 0) rfl (o := 1) rfl
              have q0 := Sd7.out.frozen (i := 0) rfl 0
              have q1 := Sd7.out.frozen (i := 0) rfl 1
              have SF := (Sd7.out.store (i := 0) rfl 0 (.int .i64 vg)).store (i := 0) rfl 1 (.slice aB (yss.length + 1) cB)
              have SG : Hid (Sp w1 _ [Own 30 1 (.slice aB (yss.length + 1) cB) (yss.length + 1) (csg ++ [.slice D d.length dc]), Box _ 26 #[.int .i64 vg, .slice aB (yss.length + 1) cB], Box b_g 26 #[.int .i64 vg, .slice Bg yss.length capg], Own 3 1 (.slice D d.length dc) d.length (d.map (.int .i64)), Rows Ty.int 30 (.slice Bg yss.length capg) csg yss, Box b_f 26 #[.int .i64 n, .slice B xss.length cap]]) := Sp.pick [2, 0, 1, 1, 1, 1] SF rfl
              clear SF Sd7
              go_wp2_with fail
              go_meet
              exact ⟨_, _, _, rfl, SG⟩
          · go_simp
            have Sd8 := Sd2.out.alloc_box #[.int .i64 0, .slice none 0 0] 26
            (try simp only [World.size_alloc, drew_size2] at Sd8)
            replace Sd8 := Lib.hid Sd8
            clear Sd2
            refine hK.out _ _ ⟨Sd8.out.cell (i := 2) rfl (o := 0) rfl, Sd8.out.cell (i := 2) rfl (o := 1) rfl⟩ (fun hS8 => ?_)
            clear hK
            (try simp only [put_rules])
            (refine walkT_ready (rs := [7]) (by kernel_rfl) (by simp) (by decide) ?_; refine AllT.cons rfl (fun K hK => ?_) AllT.nil)
            go_simp
            have Sd9 := Sd8.out.alloc_box #[.slice D d.length dc] 30
            (try simp only [World.size_alloc, drew_size2] at Sd9)
            replace Sd9 := Lib.hid Sd9
            clear Sd8
            refine hK.out _ _ ⟨Sd9.out.cell (i := 3) rfl (o := 0) rfl, Sd9.out.cell (i := 3) rfl (o := 1) rfl⟩ (fun hS9 => ?_)
            clear hK
            (try simp only [put_rules])
            (refine walkT_ready (rs := [8]) (by kernel_rfl) (by simp) (by decide) ?_; refine AllT.cons rfl (fun K hK => ?_) AllT.nil)
            (refine step_append_src rfl _ _ rfl Try.underlying24 hi hz0 hz1 hz2 rfl (by decide) _ yss.length _ rfl (Sd9.out.own (i := 2) rfl) _ 1 1 [.slice D d.length dc] rfl (Src.one (Sd9.out.cell (i := 0) rfl (o := 0) rfl)) (by simp [Value.oneCell']) (by unfold maxLen; omega) (by omega) ?_; intro vB wB hownB hgB hatB)
            have Sd10 := Sd9.out.own_push (i := 2) rfl (bb _) hownB hgB hatB
            obtain ⟨aB, cB, rfl⟩ := owns_form hownB
            clear hownB hgB hatB
            replace Sd10 := Lib.hid Sd10
            clear Sd9
            refine hK.out _ _ ⟨Sd10.out.cell (i := 3) rfl (o := 0) rfl, Sd10.out.cell (i := 3) rfl (o := 1) rfl⟩ (fun hS10 => ?_)
            clear hK
            (try simp only [put_rules])
            (refine walkT_take (i := 9) (v := ?_) rfl (by kernel_rfl) (by decide) (by kernel_rfl) (by kernel_rfl) (fun _ _ _ h => h) (Or.inl ⟨by rfl, ?_⟩) (by assumption) ?_; rotate_left; (focus (intro w hSw; (try dsimp only at hSw); go_simp; (try with_reducible rfl); done)); (try simp only [put_rules]))
            (refine walkT_done (by kernel_rfl) ?_)
            simp only [List.drop_succ_cons, List.drop_zero]
            have j0 := Sd10.out.cell (i := 1) rfl (o := 0) rfl
            have j1 := Sd10.out.cell (i := 1) rfl (o := 1) rfl
            have q0 := Sd10.out.frozen (i := 1) rfl 0
            have q1 := Sd10.out.frozen (i := 1) rfl 1
            have SF := (Sd10.out.store (i := 1) rfl 0 (.int .i64 vg)).store (i := 1) rfl 1 (.slice aB (yss.length + 1) cB)
            have SG : Hid (Sp w1 _ [Own 30 1 (.slice aB (yss.length + 1) cB) (yss.length + 1) (csg ++ [.slice D d.length dc]), Box _ 26 #[.int .i64 vg, .slice aB (yss.length + 1) cB], Box b_g 26 #[.int .i64 vg, .slice Bg yss.length capg], Own 3 1 (.slice D d.length dc) d.length (d.map (.int .i64)), Rows Ty.int 30 (.slice Bg yss.length capg) csg yss, Box b_f 26 #[.int .i64 n, .slice B xss.length cap]]) := Sp.pick [2, 1, 1, 1, 1, 1] SF rfl
            clear SF Sd10
            go_wp2_with fail
            go_meet
            exact ⟨_, _, _, rfl, SG⟩
        · go_simp
          have Sd11 := Sd1.out.alloc_box #[.slice D d.length dc] 30
          (try simp only [World.size_alloc, drew_size2] at Sd11)
          replace Sd11 := Lib.hid Sd11
          clear Sd1
          refine hK.out _ _ ⟨Sd11.out.cell (i := 2) rfl (o := 0) rfl, Sd11.out.cell (i := 2) rfl (o := 1) rfl⟩ (fun hS11 => ?_)
          clear hK
          (try simp only [put_rules])
          (refine walkT_ready (rs := [5, 10]) (by kernel_rfl) (by simp) (by decide) ?_; refine AllT.cons rfl (fun K hK => ?_) (AllT.cons rfl (fun K hK => ?_) AllT.nil))
          · (refine step_append_src rfl _ _ rfl Try.underlying24 hi hz0 hz1 hz2 rfl (by decide) _ 0 _ rfl (Sd11.out.own (i := 1) rfl) Bg yss.length capg csg rfl (rows_src Sd11.out (i := 4) rfl) hus1.out (by unfold maxLen; omega) (by omega) ?_; intro vA wA hownA hgA hatA)
            have Sd12 := Sd11.out.own_push (i := 1) rfl (bb _) hownA hgA hatA
            obtain ⟨aA, cA, rfl⟩ := owns_form hownA
            rw [Nat.zero_add, List.nil_append] at Sd12
            clear hownA hgA hatA
            simp only [Nat.zero_add]
            replace Sd12 := Lib.hid Sd12
            clear Sd11
            refine hK.out _ _ ⟨Sd12.out.cell (i := 2) rfl (o := 0) rfl, Sd12.out.cell (i := 2) rfl (o := 1) rfl⟩ (fun hS12 => ?_)
            clear hK
            (try simp only [put_rules])
            (refine walkT_ready (rs := [8, 10]) (by kernel_rfl) (by simp) (by decide) ?_; refine AllT.cons rfl (fun K hK => ?_) (AllT.cons rfl (fun K hK => ?_) AllT.nil))
            · (refine step_append_src rfl _ _ rfl Try.underlying24 hi hz0 hz1 hz2 rfl (by decide) _ yss.length _ rfl (Sd12.out.own (i := 1) rfl) _ 1 1 [.slice D d.length dc] rfl (Src.one (Sd12.out.cell (i := 0) rfl (o := 0) rfl)) (by simp [Value.oneCell']) (by unfold maxLen; omega) (by omega) ?_; intro vB wB hownB hgB hatB)
              have Sd13 := Sd12.out.own_push (i := 1) rfl (bb _) hownB hgB hatB
              obtain ⟨aB, cB, rfl⟩ := owns_form hownB
              clear hownB hgB hatB
              replace Sd13 := Lib.hid Sd13
              clear Sd12
              refine hK.out _ _ ⟨Sd13.out.cell (i := 2) rfl (o := 0) rfl, Sd13.out.cell (i := 2) rfl (o := 1) rfl⟩ (fun hS13 => ?_)
              clear hK
              (try simp only [put_rules])
              (refine walkT_take (i := 9) (v := ?_) rfl (by kernel_rfl) (by decide) (by kernel_rfl) (by kernel_rfl) (fun _ _ _ h => h) (Or.inl ⟨by rfl, ?_⟩) (by assumption) ?_; rotate_left; (focus (intro w hSw; (try dsimp only at hSw); go_simp; (try with_reducible rfl); done)); (try simp only [put_rules]))
              (refine walkT_ready (rs := [10]) (by kernel_rfl) (by simp) (by decide) ?_; refine AllT.cons rfl (fun K hK => ?_) AllT.nil)
              go_simp
              have Sd14 := Sd13.out.alloc_box #[.int .i64 0, .slice none 0 0] 26
              (try simp only [World.size_alloc, drew_size2] at Sd14)
              replace Sd14 := Lib.hid Sd14
              clear Sd13
              refine hK.out _ _ ⟨Sd14.out.cell (i := 3) rfl (o := 0) rfl, Sd14.out.cell (i := 3) rfl (o := 1) rfl⟩ (fun hS14 => ?_)
              clear hK
              (try simp only [put_rules])
              (refine walkT_done (by kernel_rfl) ?_)
              simp only [List.drop_succ_cons, List.drop_zero]
              have j0 := Sd14.out.cell (i := 0) rfl (o := 0) rfl
              have j1 := Sd14.out.cell (i := 0) rfl (o := 1) rfl
              have q0 := Sd14.out.frozen (i := 0) rfl 0
              have q1 := Sd14.out.frozen (i := 0) rfl 1
              have SF := (Sd14.out.store (i := 0) rfl 0 (.int .i64 vg)).store (i := 0) rfl 1 (.slice aB (yss.length + 1) cB)
              have SG : Hid (Sp w1 _ [Own 30 1 (.slice aB (yss.length + 1) cB) (yss.length + 1) (csg ++ [.slice D d.length dc]), Box _ 26 #[.int .i64 vg, .slice aB (yss.length + 1) cB], Box b_g 26 #[.int .i64 vg, .slice Bg yss.length capg], Own 3 1 (.slice D d.length dc) d.length (d.map (.int .i64)), Rows Ty.int 30 (.slice Bg yss.length capg) csg yss, Box b_f 26 #[.int .i64 n, .slice B xss.length cap]]) := Sp.pick [2, 0, 1, 1, 1, 1] SF rfl
              rw [alloc_set2] at SG
              clear SF Sd14
              go_wp2_with fail
              go_meet
              exact ⟨_, _, _, rfl, SG⟩
            · go_simp
              have Sd15 := Sd12.out.alloc_box #[.int .i64 0, .slice none 0 0] 26
              (try simp only [World.size_alloc, drew_size2] at Sd15)
              replace Sd15 := Lib.hid Sd15
              clear Sd12
              refine hK.out _ _ ⟨Sd15.out.cell (i := 3) rfl (o := 0) rfl, Sd15.out.cell (i := 3) rfl (o := 1) rfl⟩ (fun hS15 => ?_)
              clear hK
              (try simp only [put_rules])
              (refine walkT_ready (rs := [8]) (by kernel_rfl) (by simp) (by decide) ?_; refine AllT.cons rfl (fun K hK => ?_) AllT.nil)
              (refine step_append_src rfl _ _ rfl Try.underlying24 hi hz0 hz1 hz2 rfl (by decide) _ yss.length _ rfl (Sd15.out.own (i := 2) rfl) _ 1 1 [.slice D d.length dc] rfl (Src.one (Sd15.out.cell (i := 1) rfl (o := 0) rfl)) (by simp [Value.oneCell']) (by unfold maxLen; omega) (by omega) ?_; intro vB wB hownB hgB hatB)
              have Sd16 := Sd15.out.own_push (i := 2) rfl (bb _) hownB hgB hatB
              obtain ⟨aB, cB, rfl⟩ := owns_form hownB
              clear hownB hgB hatB
              replace Sd16 := Lib.hid Sd16
              clear Sd15
              refine hK.out _ _ ⟨Sd16.out.cell (i := 3) rfl (o := 0) rfl, Sd16.out.cell (i := 3) rfl (o := 1) rfl⟩ (fun hS16 => ?_)
              clear hK
              (try simp only [put_rules])
              (refine walkT_take (i := 9) (v := ?_) rfl (by kernel_rfl) (by decide) (by kernel_rfl) (by kernel_rfl) (fun _ _ _ h => h) (Or.inl ⟨by rfl, ?_⟩) (by assumption) ?_; rotate_left; (focus (intro w hSw; (try dsimp only at hSw); go_simp; (try with_reducible rfl); done)); (try simp only [put_rules]))
              (refine walkT_done (by kernel_rfl) ?_)
              simp only [List.drop_succ_cons, List.drop_zero]
              have j0 := Sd16.out.cell (i := 0) rfl (o := 0) rfl
              have j1 := Sd16.out.cell (i := 0) rfl (o := 1) rfl
              have q0 := Sd16.out.frozen (i := 0) rfl 0
              have q1 := Sd16.out.frozen (i := 0) rfl 1
              have SF := (Sd16.out.store (i := 0) rfl 0 (.int .i64 vg)).store (i := 0) rfl 1 (.slice aB (yss.length + 1) cB)
              have SG : Hid (Sp w1 _ [Own 30 1 (.slice aB (yss.length + 1) cB) (yss.length + 1) (csg ++ [.slice D d.length dc]), Box _ 26 #[.int .i64 vg, .slice aB (yss.length + 1) cB], Box b_g 26 #[.int .i64 vg, .slice Bg yss.length capg], Own 3 1 (.slice D d.length dc) d.length (d.map (.int .i64)), Rows Ty.int 30 (.slice Bg yss.length capg) csg yss, Box b_f 26 #[.int .i64 n, .slice B xss.length cap]]) := Sp.pick [2, 0, 1, 1, 1, 1] SF rfl
              clear SF Sd16
              go_wp2_with fail
              go_meet
              exact ⟨_, _, _, rfl, SG⟩
          · go_simp
            have Sd17 := Sd11.out.alloc_box #[.int .i64 0, .slice none 0 0] 26
            (try simp only [World.size_alloc, drew_size2] at Sd17)
            replace Sd17 := Lib.hid Sd17
            clear Sd11
            refine hK.out _ _ ⟨Sd17.out.cell (i := 3) rfl (o := 0) rfl, Sd17.out.cell (i := 3) rfl (o := 1) rfl⟩ (fun hS17 => ?_)
            clear hK
            (try simp only [put_rules])
            (refine walkT_ready (rs := [5]) (by kernel_rfl) (by simp) (by decide) ?_; refine AllT.cons rfl (fun K hK => ?_) AllT.nil)
            (refine step_append_src rfl _ _ rfl Try.underlying24 hi hz0 hz1 hz2 rfl (by decide) _ 0 _ rfl (Sd17.out.own (i := 2) rfl) Bg yss.length capg csg rfl (rows_src Sd17.out (i := 5) rfl) hus1.out (by unfold maxLen; omega) (by omega) ?_; intro vA wA hownA hgA hatA)
            have Sd18 := Sd17.out.own_push (i := 2) rfl (bb _) hownA hgA hatA
            obtain ⟨aA, cA, rfl⟩ := owns_form hownA
            rw [Nat.zero_add, List.nil_append] at Sd18
            clear hownA hgA hatA
            simp only [Nat.zero_add]
            replace Sd18 := Lib.hid Sd18
            clear Sd17
            refine hK.out _ _ ⟨Sd18.out.cell (i := 3) rfl (o := 0) rfl, Sd18.out.cell (i := 3) rfl (o := 1) rfl⟩ (fun hS18 => ?_)
            clear hK
            (try simp only [put_rules])
            (refine walkT_ready (rs := [8]) (by kernel_rfl) (by simp) (by decide) ?_; refine AllT.cons rfl (fun K hK => ?_) AllT.nil)
            (refine step_append_src rfl _ _ rfl Try.underlying24 hi hz0 hz1 hz2 rfl (by decide) _ yss.length _ rfl (Sd18.out.own (i := 2) rfl) _ 1 1 [.slice D d.length dc] rfl (Src.one (Sd18.out.cell (i := 1) rfl (o := 0) rfl)) (by simp [Value.oneCell']) (by unfold maxLen; omega) (by omega) ?_; intro vB wB hownB hgB hatB)
            have Sd19 := Sd18.out.own_push (i := 2) rfl (bb _) hownB hgB hatB
            obtain ⟨aB, cB, rfl⟩ := owns_form hownB
            clear hownB hgB hatB
            replace Sd19 := Lib.hid Sd19
            clear Sd18
            refine hK.out _ _ ⟨Sd19.out.cell (i := 3) rfl (o := 0) rfl, Sd19.out.cell (i := 3) rfl (o := 1) rfl⟩ (fun hS19 => ?_)
            clear hK
            (try simp only [put_rules])
            (refine walkT_take (i := 9) (v := ?_) rfl (by kernel_rfl) (by decide) (by kernel_rfl) (by kernel_rfl) (fun _ _ _ h => h) (Or.inl ⟨by rfl, ?_⟩) (by assumption) ?_; rotate_left; (focus (intro w hSw; (try dsimp only at hSw); go_simp; (try with_reducible rfl); done)); (try simp only [put_rules]))
            (refine walkT_done (by kernel_rfl) ?_)
            simp only [List.drop_succ_cons, List.drop_zero]
            have j0 := Sd19.out.cell (i := 0) rfl (o := 0) rfl
            have j1 := Sd19.out.cell (i := 0) rfl (o := 1) rfl
            have q0 := Sd19.out.frozen (i := 0) rfl 0
            have q1 := Sd19.out.frozen (i := 0) rfl 1
            have SF := (Sd19.out.store (i := 0) rfl 0 (.int .i64 vg)).store (i := 0) rfl 1 (.slice aB (yss.length + 1) cB)
            have SG : Hid (Sp w1 _ [Own 30 1 (.slice aB (yss.length + 1) cB) (yss.length + 1) (csg ++ [.slice D d.length dc]), Box _ 26 #[.int .i64 vg, .slice aB (yss.length + 1) cB], Box b_g 26 #[.int .i64 vg, .slice Bg yss.length capg], Own 3 1 (.slice D d.length dc) d.length (d.map (.int .i64)), Rows Ty.int 30 (.slice Bg yss.length capg) csg yss, Box b_f 26 #[.int .i64 n, .slice B xss.length cap]]) := Sp.pick [2, 0, 1, 1, 1, 1] SF rfl
            clear SF Sd19
            go_wp2_with fail
            go_meet
            exact ⟨_, _, _, rfl, SG⟩
        · go_simp
          have Sd20 := Sd1.out.alloc_box #[.int .i64 0, .slice none 0 0] 26
          (try simp only [World.size_alloc, drew_size2] at Sd20)
          replace Sd20 := Lib.hid Sd20
          clear Sd1
          refine hK.out _ _ ⟨Sd20.out.cell (i := 2) rfl (o := 0) rfl, Sd20.out.cell (i := 2) rfl (o := 1) rfl⟩ (fun hS20 => ?_)
          clear hK
          (try simp only [put_rules])
          (refine walkT_ready (rs := [5, 7]) (by kernel_rfl) (by simp) (by decide) ?_; refine AllT.cons rfl (fun K hK => ?_) (AllT.cons rfl (fun K hK => ?_) AllT.nil))
          · (refine step_append_src rfl _ _ rfl Try.underlying24 hi hz0 hz1 hz2 rfl (by decide) _ 0 _ rfl (Sd20.out.own (i := 1) rfl) Bg yss.length capg csg rfl (rows_src Sd20.out (i := 4) rfl) hus1.out (by unfold maxLen; omega) (by omega) ?_; intro vA wA hownA hgA hatA)
            have Sd21 := Sd20.out.own_push (i := 1) rfl (bb _) hownA hgA hatA
            obtain ⟨aA, cA, rfl⟩ := owns_form hownA
            rw [Nat.zero_add, List.nil_append] at Sd21
            clear hownA hgA hatA
            simp only [Nat.zero_add]
            replace Sd21 := Lib.hid Sd21
            clear Sd20
            refine hK.out _ _ ⟨Sd21.out.cell (i := 2) rfl (o := 0) rfl, Sd21.out.cell (i := 2) rfl (o := 1) rfl⟩ (fun hS21 => ?_)
            clear hK
            (try simp only [put_rules])
            (refine walkT_ready (rs := [7]) (by kernel_rfl) (by simp) (by decide) ?_; refine AllT.cons rfl (fun K hK => ?_) AllT.nil)
            go_simp
            have Sd22 := Sd21.out.alloc_box #[.slice D d.length dc] 30
            (try simp only [World.size_alloc, drew_size2] at Sd22)
            replace Sd22 := Lib.hid Sd22
            clear Sd21
            refine hK.out _ _ ⟨Sd22.out.cell (i := 3) rfl (o := 0) rfl, Sd22.out.cell (i := 3) rfl (o := 1) rfl⟩ (fun hS22 => ?_)
            clear hK
            (try simp only [put_rules])
            (refine walkT_ready (rs := [8]) (by kernel_rfl) (by simp) (by decide) ?_; refine AllT.cons rfl (fun K hK => ?_) AllT.nil)
            (refine step_append_src rfl _ _ rfl Try.underlying24 hi hz0 hz1 hz2 rfl (by decide) _ yss.length _ rfl (Sd22.out.own (i := 2) rfl) _ 1 1 [.slice D d.length dc] rfl (Src.one (Sd22.out.cell (i := 0) rfl (o := 0) rfl)) (by simp [Value.oneCell']) (by unfold maxLen; omega) (by omega) ?_; intro vB wB hownB hgB hatB)
            have Sd23 := Sd22.out.own_push (i := 2) rfl (bb _) hownB hgB hatB
            obtain ⟨aB, cB, rfl⟩ := owns_form hownB
            clear hownB hgB hatB
            replace Sd23 := Lib.hid Sd23
            clear Sd22
            refine hK.out _ _ ⟨Sd23.out.cell (i := 3) rfl (o := 0) rfl, Sd23.out.cell (i := 3) rfl (o := 1) rfl⟩ (fun hS23 => ?_)
            clear hK
            (try simp only [put_rules])
            (refine walkT_take (i := 9) (v := ?_) rfl (by kernel_rfl) (by decide) (by kernel_rfl) (by kernel_rfl) (fun _ _ _ h => h) (Or.inl ⟨by rfl, ?_⟩) (by assumption) ?_; rotate_left; (focus (intro w hSw; (try dsimp only at hSw); go_simp; (try with_reducible rfl); done)); (try simp only [put_rules]))
            (refine walkT_done (by kernel_rfl) ?_)
            simp only [List.drop_succ_cons, List.drop_zero]
            have j0 := Sd23.out.cell (i := 1) rfl (o := 0) rfl
            have j1 := Sd23.out.cell (i := 1) rfl (o := 1) rfl
            have q0 := Sd23.out.frozen (i := 1) rfl 0
            have q1 := Sd23.out.frozen (i := 1) rfl 1
            have SF := (Sd23.out.store (i := 1) rfl 0 (.int .i64 vg)).store (i := 1) rfl 1 (.slice aB (yss.length + 1) cB)
            have SG : Hid (Sp w1 _ [Own 30 1 (.slice aB (yss.length + 1) cB) (yss.length + 1) (csg ++ [.slice D d.length dc]), Box _ 26 #[.int .i64 vg, .slice aB (yss.length + 1) cB], Box b_g 26 #[.int .i64 vg, .slice Bg yss.length capg], Own 3 1 (.slice D d.length dc) d.length (d.map (.int .i64)), Rows Ty.int 30 (.slice Bg yss.length capg) csg yss, Box b_f 26 #[.int .i64 n, .slice B xss.length cap]]) := Sp.pick [2, 1, 1, 1, 1, 1] SF rfl
            clear SF Sd23
            go_wp2_with fail
            go_meet
            exact ⟨_, _, _, rfl, SG⟩
          · go_simp
            have Sd24 := Sd20.out.alloc_box #[.slice D d.length dc] 30
            (try simp only [World.size_alloc, drew_size2] at Sd24)
            replace Sd24 := Lib.hid Sd24
            clear Sd20
            refine hK.out _ _ ⟨Sd24.out.cell (i := 3) rfl (o := 0) rfl, Sd24.out.cell (i := 3) rfl (o := 1) rfl⟩ (fun hS24 => ?_)
            clear hK
            (try simp only [put_rules])
            (refine walkT_ready (rs := [5]) (by kernel_rfl) (by simp) (by decide) ?_; refine AllT.cons rfl (fun K hK => ?_) AllT.nil)
            (refine step_append_src rfl _ _ rfl Try.underlying24 hi hz0 hz1 hz2 rfl (by decide) _ 0 _ rfl (Sd24.out.own (i := 2) rfl) Bg yss.length capg csg rfl (rows_src Sd24.out (i := 5) rfl) hus1.out (by unfold maxLen; omega) (by omega) ?_; intro vA wA hownA hgA hatA)
            have Sd25 := Sd24.out.own_push (i := 2) rfl (bb _) hownA hgA hatA
            obtain ⟨aA, cA, rfl⟩ := owns_form hownA
            rw [Nat.zero_add, List.nil_append] at Sd25
            clear hownA hgA hatA
            simp only [Nat.zero_add]
            replace Sd25 := Lib.hid Sd25
            clear Sd24
            refine hK.out _ _ ⟨Sd25.out.cell (i := 3) rfl (o := 0) rfl, Sd25.out.cell (i := 3) rfl (o := 1) rfl⟩ (fun hS25 => ?_)
            clear hK
            (try simp only [put_rules])
            (refine walkT_ready (rs := [8]) (by kernel_rfl) (by simp) (by decide) ?_; refine AllT.cons rfl (fun K hK => ?_) AllT.nil)
            (refine step_append_src rfl _ _ rfl Try.underlying24 hi hz0 hz1 hz2 rfl (by decide) _ yss.length _ rfl (Sd25.out.own (i := 2) rfl) _ 1 1 [.slice D d.length dc] rfl (Src.one (Sd25.out.cell (i := 0) rfl (o := 0) rfl)) (by simp [Value.oneCell']) (by unfold maxLen; omega) (by omega) ?_; intro vB wB hownB hgB hatB)
            have Sd26 := Sd25.out.own_push (i := 2) rfl (bb _) hownB hgB hatB
            obtain ⟨aB, cB, rfl⟩ := owns_form hownB
            clear hownB hgB hatB
            replace Sd26 := Lib.hid Sd26
            clear Sd25
            refine hK.out _ _ ⟨Sd26.out.cell (i := 3) rfl (o := 0) rfl, Sd26.out.cell (i := 3) rfl (o := 1) rfl⟩ (fun hS26 => ?_)
            clear hK
            (try simp only [put_rules])
            (refine walkT_take (i := 9) (v := ?_) rfl (by kernel_rfl) (by decide) (by kernel_rfl) (by kernel_rfl) (fun _ _ _ h => h) (Or.inl ⟨by rfl, ?_⟩) (by assumption) ?_; rotate_left; (focus (intro w hSw; (try dsimp only at hSw); go_simp; (try with_reducible rfl); done)); (try simp only [put_rules]))
            (refine walkT_done (by kernel_rfl) ?_)
            simp only [List.drop_succ_cons, List.drop_zero]
            have j0 := Sd26.out.cell (i := 1) rfl (o := 0) rfl
            have j1 := Sd26.out.cell (i := 1) rfl (o := 1) rfl
            have q0 := Sd26.out.frozen (i := 1) rfl 0
            have q1 := Sd26.out.frozen (i := 1) rfl 1
            have SF := (Sd26.out.store (i := 1) rfl 0 (.int .i64 vg)).store (i := 1) rfl 1 (.slice aB (yss.length + 1) cB)
            have SG : Hid (Sp w1 _ [Own 30 1 (.slice aB (yss.length + 1) cB) (yss.length + 1) (csg ++ [.slice D d.length dc]), Box _ 26 #[.int .i64 vg, .slice aB (yss.length + 1) cB], Box b_g 26 #[.int .i64 vg, .slice Bg yss.length capg], Own 3 1 (.slice D d.length dc) d.length (d.map (.int .i64)), Rows Ty.int 30 (.slice Bg yss.length capg) csg yss, Box b_f 26 #[.int .i64 n, .slice B xss.length cap]]) := Sp.pick [2, 1, 1, 1, 1, 1] SF rfl
            clear SF Sd26
            go_wp2_with fail
            go_meet
            exact ⟨_, _, _, rfl, SG⟩
      · go_simp
        have Sd27 := Sd0.out.alloc_box #[.slice D d.length dc] 30
        (try simp only [World.size_alloc, drew_size2] at Sd27)
        replace Sd27 := Lib.hid Sd27
        clear Sd0
        refine hK.out _ _ ⟨Sd27.out.cell (i := 1) rfl (o := 0) rfl, Sd27.out.cell (i := 1) rfl (o := 1) rfl⟩ (fun hS27 => ?_)
        clear hK
        (try simp only [put_rules])
        (refine walkT_ready (rs := [2, 10]) (by kernel_rfl) (by simp) (by decide) ?_; refine AllT.cons rfl (fun K hK => ?_) (AllT.cons rfl (fun K hK => ?_) AllT.nil))
        · go_simp
          have Sd28 := Sd27.out.own_made 30 1
          (try simp only [World.size_alloc, drew_size2] at Sd28)
          replace Sd28 := Lib.hid Sd28
          clear Sd27
          refine hK.out _ _ ⟨Sd28.out.cell (i := 2) rfl (o := 0) rfl, Sd28.out.cell (i := 2) rfl (o := 1) rfl⟩ (fun hS28 => ?_)
          clear hK
          (try simp only [put_rules])
          (refine walkT_ready (rs := [5, 10]) (by kernel_rfl) (by simp) (by decide) ?_; refine AllT.cons rfl (fun K hK => ?_) (AllT.cons rfl (fun K hK => ?_) AllT.nil))
          · (refine step_append_src rfl _ _ rfl Try.underlying24 hi hz0 hz1 hz2 rfl (by decide) _ 0 _ rfl (Sd28.out.own (i := 0) rfl) Bg yss.length capg csg rfl (rows_src Sd28.out (i := 4) rfl) hus1.out (by unfold maxLen; omega) (by omega) ?_; intro vA wA hownA hgA hatA)
            have Sd29 := Sd28.out.own_push (i := 0) rfl (bb _) hownA hgA hatA
            obtain ⟨aA, cA, rfl⟩ := owns_form hownA
            rw [Nat.zero_add, List.nil_append] at Sd29
            clear hownA hgA hatA
            simp only [Nat.zero_add]
            replace Sd29 := Lib.hid Sd29
            clear Sd28
            refine hK.out _ _ ⟨Sd29.out.cell (i := 2) rfl (o := 0) rfl, Sd29.out.cell (i := 2) rfl (o := 1) rfl⟩ (fun hS29 => ?_)
            clear hK
            (try simp only [put_rules])
            (refine walkT_ready (rs := [8, 10]) (by kernel_rfl) (by simp) (by decide) ?_; refine AllT.cons rfl (fun K hK => ?_) (AllT.cons rfl (fun K hK => ?_) AllT.nil))
            · (refine step_append_src rfl _ _ rfl Try.underlying24 hi hz0 hz1 hz2 rfl (by decide) _ yss.length _ rfl (Sd29.out.own (i := 0) rfl) _ 1 1 [.slice D d.length dc] rfl (Src.one (Sd29.out.cell (i := 1) rfl (o := 0) rfl)) (by simp [Value.oneCell']) (by unfold maxLen; omega) (by omega) ?_; intro vB wB hownB hgB hatB)
              have Sd30 := Sd29.out.own_push (i := 0) rfl (bb _) hownB hgB hatB
              obtain ⟨aB, cB, rfl⟩ := owns_form hownB
              clear hownB hgB hatB
              replace Sd30 := Lib.hid Sd30
              clear Sd29
              refine hK.out _ _ ⟨Sd30.out.cell (i := 2) rfl (o := 0) rfl, Sd30.out.cell (i := 2) rfl (o := 1) rfl⟩ (fun hS30 => ?_)
              clear hK
              (try simp only [put_rules])
              (refine walkT_take (i := 9) (v := ?_) rfl (by kernel_rfl) (by decide) (by kernel_rfl) (by kernel_rfl) (fun _ _ _ h => h) (Or.inl ⟨by rfl, ?_⟩) (by assumption) ?_; rotate_left; (focus (intro w hSw; (try dsimp only at hSw); go_simp; (try with_reducible rfl); done)); (try simp only [put_rules]))
              (refine walkT_ready (rs := [10]) (by kernel_rfl) (by simp) (by decide) ?_; refine AllT.cons rfl (fun K hK => ?_) AllT.nil)
              go_simp
              have Sd31 := Sd30.out.alloc_box #[.int .i64 0, .slice none 0 0] 26
              (try simp only [World.size_alloc, drew_size2] at Sd31)
              replace Sd31 := Lib.hid Sd31
              clear Sd30
              refine hK.out _ _ ⟨Sd31.out.cell (i := 3) rfl (o := 0) rfl, Sd31.out.cell (i := 3) rfl (o := 1) rfl⟩ (fun hS31 => ?_)
              clear hK
              (try simp only [put_rules])
              (refine walkT_done (by kernel_rfl) ?_)
              simp only [List.drop_succ_cons, List.drop_zero]
              have j0 := Sd31.out.cell (i := 0) rfl (o := 0) rfl
              have j1 := Sd31.out.cell (i := 0) rfl (o := 1) rfl
              have q0 := Sd31.out.frozen (i := 0) rfl 0
              have q1 := Sd31.out.frozen (i := 0) rfl 1
              have SF := (Sd31.out.store (i := 0) rfl 0 (.int .i64 vg)).store (i := 0) rfl 1 (.slice aB (yss.length + 1) cB)
              have SG : Hid (Sp w1 _ [Own 30 1 (.slice aB (yss.length + 1) cB) (yss.length + 1) (csg ++ [.slice D d.length dc]), Box _ 26 #[.int .i64 vg, .slice aB (yss.length + 1) cB], Box b_g 26 #[.int .i64 vg, .slice Bg yss.length capg], Own 3 1 (.slice D d.length dc) d.length (d.map (.int .i64)), Rows Ty.int 30 (.slice Bg yss.length capg) csg yss, Box b_f 26 #[.int .i64 n, .slice B xss.length cap]]) := Sp.pick [1, 0, 1, 1, 1, 1] SF rfl
              rw [alloc_set2] at SG
              clear SF Sd31
              go_wp2_with fail
              go_meet
              exact ⟨_, _, _, rfl, SG⟩
            · go_simp
              have Sd32 := Sd29.out.alloc_box #[.int .i64 0, .slice none 0 0] 26
              (try simp only [World.size_alloc, drew_size2] at Sd32)
              replace Sd32 := Lib.hid Sd32
              clear Sd29
              refine hK.out _ _ ⟨Sd32.out.cell (i := 3) rfl (o := 0) rfl, Sd32.out.cell (i := 3) rfl (o := 1) rfl⟩ (fun hS32 => ?_)
              clear hK
              (try simp only [put_rules])
              (refine walkT_ready (rs := [8]) (by kernel_rfl) (by simp) (by decide) ?_; refine AllT.cons rfl (fun K hK => ?_) AllT.nil)
              (refine step_append_src rfl _ _ rfl Try.underlying24 hi hz0 hz1 hz2 rfl (by decide) _ yss.length _ rfl (Sd32.out.own (i := 1) rfl) _ 1 1 [.slice D d.length dc] rfl (Src.one (Sd32.out.cell (i := 2) rfl (o := 0) rfl)) (by simp [Value.oneCell']) (by unfold maxLen; omega) (by omega) ?_; intro vB wB hownB hgB hatB)
              have Sd33 := Sd32.out.own_push (i := 1) rfl (bb _) hownB hgB hatB
              obtain ⟨aB, cB, rfl⟩ := owns_form hownB
              clear hownB hgB hatB
              replace Sd33 := Lib.hid Sd33
              clear Sd32
              refine hK.out _ _ ⟨Sd33.out.cell (i := 3) rfl (o := 0) rfl, Sd33.out.cell (i := 3) rfl (o := 1) rfl⟩ (fun hS33 => ?_)
              clear hK
              (try simp only [put_rules])
              (refine walkT_take (i := 9) (v := ?_) rfl (by kernel_rfl) (by decide) (by kernel_rfl) (by kernel_rfl) (fun _ _ _ h => h) (Or.inl ⟨by rfl, ?_⟩) (by assumption) ?_; rotate_left; (focus (intro w hSw; (try dsimp only at hSw); go_simp; (try with_reducible rfl); done)); (try simp only [put_rules]))
              (refine walkT_done (by kernel_rfl) ?_)
              simp only [List.drop_succ_cons, List.drop_zero]
              have j0 := Sd33.out.cell (i := 0) rfl (o := 0) rfl
              have j1 := Sd33.out.cell (i := 0) rfl (o := 1) rfl
              have q0 := Sd33.out.frozen (i := 0) rfl 0
              have q1 := Sd33.out.frozen (i := 0) rfl 1
              have SF := (Sd33.out.store (i := 0) rfl 0 (.int .i64 vg)).store (i := 0) rfl 1 (.slice aB (yss.length + 1) cB)
              have SG : Hid (Sp w1 _ [Own 30 1 (.slice aB (yss.length + 1) cB) (yss.length + 1) (csg ++ [.slice D d.length dc]), Box _ 26 #[.int .i64 vg, .slice aB (yss.length + 1) cB], Box b_g 26 #[.int .i64 vg, .slice Bg yss.length capg], Own 3 1 (.slice D d.length dc) d.length (d.map (.int .i64)), Rows Ty.int 30 (.slice Bg yss.length capg) csg yss, Box b_f 26 #[.int .i64 n, .slice B xss.length cap]]) := Sp.pick [1, 0, 1, 1, 1, 1] SF rfl
              clear SF Sd33
              go_wp2_with fail
              go_meet
              exact ⟨_, _, _, rfl, SG⟩
          · go_simp
            have Sd34 := Sd28.out.alloc_box #[.int .i64 0, .slice none 0 0] 26
            (try simp only [World.size_alloc, drew_size2] at Sd34)
            replace Sd34 := Lib.hid Sd34
            clear Sd28
            refine hK.out _ _ ⟨Sd34.out.cell (i := 3) rfl (o := 0) rfl, Sd34.out.cell (i := 3) rfl (o := 1) rfl⟩ (fun hS34 => ?_)
            clear hK
            (try simp only [put_rules])
            (refine walkT_ready (rs := [5]) (by kernel_rfl) (by simp) (by decide) ?_; refine AllT.cons rfl (fun K hK => ?_) AllT.nil)
            (refine step_append_src rfl _ _ rfl Try.underlying24 hi hz0 hz1 hz2 rfl (by decide) _ 0 _ rfl (Sd34.out.own (i := 1) rfl) Bg yss.length capg csg rfl (rows_src Sd34.out (i := 5) rfl) hus1.out (by unfold maxLen; omega) (by omega) ?_; intro vA wA hownA hgA hatA)
            have Sd35 := Sd34.out.own_push (i := 1) rfl (bb _) hownA hgA hatA
            obtain ⟨aA, cA, rfl⟩ := owns_form hownA
            rw [Nat.zero_add, List.nil_append] at Sd35
            clear hownA hgA hatA
            simp only [Nat.zero_add]
            replace Sd35 := Lib.hid Sd35
            clear Sd34
            refine hK.out _ _ ⟨Sd35.out.cell (i := 3) rfl (o := 0) rfl, Sd35.out.cell (i := 3) rfl (o := 1) rfl⟩ (fun hS35 => ?_)
            clear hK
            (try simp only [put_rules])
            (refine walkT_ready (rs := [8]) (by kernel_rfl) (by simp) (by decide) ?_; refine AllT.cons rfl (fun K hK => ?_) AllT.nil)
            (refine step_append_src rfl _ _ rfl Try.underlying24 hi hz0 hz1 hz2 rfl (by decide) _ yss.length _ rfl (Sd35.out.own (i := 1) rfl) _ 1 1 [.slice D d.length dc] rfl (Src.one (Sd35.out.cell (i := 2) rfl (o := 0) rfl)) (by simp [Value.oneCell']) (by unfold maxLen; omega) (by omega) ?_; intro vB wB hownB hgB hatB)
            have Sd36 := Sd35.out.own_push (i := 1) rfl (bb _) hownB hgB hatB
            obtain ⟨aB, cB, rfl⟩ := owns_form hownB
            clear hownB hgB hatB
            replace Sd36 := Lib.hid Sd36
            clear Sd35
            refine hK.out _ _ ⟨Sd36.out.cell (i := 3) rfl (o := 0) rfl, Sd36.out.cell (i := 3) rfl (o := 1) rfl⟩ (fun hS36 => ?_)
            clear hK
            (try simp only [put_rules])
            (refine walkT_take (i := 9) (v := ?_) rfl (by kernel_rfl) (by decide) (by kernel_rfl) (by kernel_rfl) (fun _ _ _ h => h) (Or.inl ⟨by rfl, ?_⟩) (by assumption) ?_; rotate_left; (focus (intro w hSw; (try dsimp only at hSw); go_simp; (try with_reducible rfl); done)); (try simp only [put_rules]))
            (refine walkT_done (by kernel_rfl) ?_)
            simp only [List.drop_succ_cons, List.drop_zero]
            have j0 := Sd36.out.cell (i := 0) rfl (o := 0) rfl
            have j1 := Sd36.out.cell (i := 0) rfl (o := 1) rfl
            have q0 := Sd36.out.frozen (i := 0) rfl 0
            have q1 := Sd36.out.frozen (i := 0) rfl 1
            have SF := (Sd36.out.store (i := 0) rfl 0 (.int .i64 vg)).store (i := 0) rfl 1 (.slice aB (yss.length + 1) cB)
            have SG : Hid (Sp w1 _ [Own 30 1 (.slice aB (yss.length + 1) cB) (yss.length + 1) (csg ++ [.slice D d.length dc]), Box _ 26 #[.int .i64 vg, .slice aB (yss.length + 1) cB], Box b_g 26 #[.int .i64 vg, .slice Bg yss.length capg], Own 3 1 (.slice D d.length dc) d.length (d.map (.int .i64)), Rows Ty.int 30 (.slice Bg yss.length capg) csg yss, Box b_f 26 #[.int .i64 n, .slice B xss.length cap]]) := Sp.pick [1, 0, 1, 1, 1, 1] SF rfl
            clear SF Sd36
            go_wp2_with fail
            go_meet
            exact ⟨_, _, _, rfl, SG⟩
        · go_simp
          have Sd37 := Sd27.out.alloc_box #[.int .i64 0, .slice none 0 0] 26
          (try simp only [World.size_alloc, drew_size2] at Sd37)
          replace Sd37 := Lib.hid Sd37
          clear Sd27
          refine hK.out _ _ ⟨Sd37.out.cell (i := 2) rfl (o := 0) rfl, Sd37.out.cell (i := 2) rfl (o := 1) rfl⟩ (fun hS37 => ?_)
          clear hK
          (try simp only [put_rules])
          (refine walkT_ready (rs := [2]) (by kernel_rfl) (by simp) (by decide) ?_; refine AllT.cons rfl (fun K hK => ?_) AllT.nil)
          go_simp
          have Sd38 := Sd37.out.own_made 30 1
          (try simp only [World.size_alloc, drew_size2] at Sd38)
          replace Sd38 := Lib.hid Sd38
          clear Sd37
          refine hK.out _ _ ⟨Sd38.out.cell (i := 3) rfl (o := 0) rfl, Sd38.out.cell (i := 3) rfl (o := 1) rfl⟩ (fun hS38 => ?_)
          clear hK
          (try simp only [put_rules])
          (refine walkT_ready (rs := [5]) (by kernel_rfl) (by simp) (by decide) ?_; refine AllT.cons rfl (fun K hK => ?_) AllT.nil)
          (refine step_append_src rfl _ _ rfl Try.underlying24 hi hz0 hz1 hz2 rfl (by decide) _ 0 _ rfl (Sd38.out.own (i := 0) rfl) Bg yss.length capg csg rfl (rows_src Sd38.out (i := 5) rfl) hus1.out (by unfold maxLen; omega) (by omega) ?_; intro vA wA hownA hgA hatA)
          have Sd39 := Sd38.out.own_push (i := 0) rfl (bb _) hownA hgA hatA
          obtain ⟨aA, cA, rfl⟩ := owns_form hownA
          rw [Nat.zero_add, List.nil_append] at Sd39
          clear hownA hgA hatA
          simp only [Nat.zero_add]
          replace Sd39 := Lib.hid Sd39
          clear Sd38
          refine hK.out _ _ ⟨Sd39.out.cell (i := 3) rfl (o := 0) rfl, Sd39.out.cell (i := 3) rfl (o := 1) rfl⟩ (fun hS39 => ?_)
          clear hK
          (try simp only [put_rules])
          (refine walkT_ready (rs := [8]) (by kernel_rfl) (by simp) (by decide) ?_; refine AllT.cons rfl (fun K hK => ?_) AllT.nil)
          (refine step_append_src rfl _ _ rfl Try.underlying24 hi hz0 hz1 hz2 rfl (by decide) _ yss.length _ rfl (Sd39.out.own (i := 0) rfl) _ 1 1 [.slice D d.length dc] rfl (Src.one (Sd39.out.cell (i := 2) rfl (o := 0) rfl)) (by simp [Value.oneCell']) (by unfold maxLen; omega) (by omega) ?_; intro vB wB hownB hgB hatB)
          have Sd40 := Sd39.out.own_push (i := 0) rfl (bb _) hownB hgB hatB
          obtain ⟨aB, cB, rfl⟩ := owns_form hownB
          clear hownB hgB hatB
          replace Sd40 := Lib.hid Sd40
          clear Sd39
          refine hK.out _ _ ⟨Sd40.out.cell (i := 3) rfl (o := 0) rfl, Sd40.out.cell (i := 3) rfl (o := 1) rfl⟩ (fun hS40 => ?_)
          clear hK
          (try simp only [put_rules])
          (refine walkT_take (i := 9) (v := ?_) rfl (by kernel_rfl) (by decide) (by kernel_rfl) (by kernel_rfl) (fun _ _ _ h => h) (Or.inl ⟨by rfl, ?_⟩) (by assumption) ?_; rotate_left; (focus (intro w hSw; (try dsimp only at hSw); go_simp; (try with_reducible rfl); done)); (try simp only [put_rules]))
          (refine walkT_done (by kernel_rfl) ?_)
          simp only [List.drop_succ_cons, List.drop_zero]
          have j0 := Sd40.out.cell (i := 1) rfl (o := 0) rfl
          have j1 := Sd40.out.cell (i := 1) rfl (o := 1) rfl
          have q0 := Sd40.out.frozen (i := 1) rfl 0
          have q1 := Sd40.out.frozen (i := 1) rfl 1
          have SF := (Sd40.out.store (i := 1) rfl 0 (.int .i64 vg)).store (i := 1) rfl 1 (.slice aB (yss.length + 1) cB)
          have SG : Hid (Sp w1 _ [Own 30 1 (.slice aB (yss.length + 1) cB) (yss.length + 1) (csg ++ [.slice D d.length dc]), Box _ 26 #[.int .i64 vg, .slice aB (yss.length + 1) cB], Box b_g 26 #[.int .i64 vg, .slice Bg yss.length capg], Own 3 1 (.slice D d.length dc) d.length (d.map (.int .i64)), Rows Ty.int 30 (.slice Bg yss.length capg) csg yss, Box b_f 26 #[.int .i64 n, .slice B xss.length cap]]) := Sp.pick [0, 0, 1, 1, 1, 1] SF rfl
          clear SF Sd40
          go_wp2_with fail
          go_meet
          exact ⟨_, _, _, rfl, SG⟩
      · go_simp
        have Sd41 := Sd0.out.alloc_box #[.int .i64 0, .slice none 0 0] 26
        (try simp only [World.size_alloc, drew_size2] at Sd41)
        replace Sd41 := Lib.hid Sd41
        clear Sd0
        refine hK.out _ _ ⟨Sd41.out.cell (i := 1) rfl (o := 0) rfl, Sd41.out.cell (i := 1) rfl (o := 1) rfl⟩ (fun hS41 => ?_)
        clear hK
        (try simp only [put_rules])
        (refine walkT_ready (rs := [2, 7]) (by kernel_rfl) (by simp) (by decide) ?_; refine AllT.cons rfl (fun K hK => ?_) (AllT.cons rfl (fun K hK => ?_) AllT.nil))
        · go_simp
          have Sd42 := Sd41.out.own_made 30 1
          (try simp only [World.size_alloc, drew_size2] at Sd42)
          replace Sd42 := Lib.hid Sd42
          clear Sd41
          refine hK.out _ _ ⟨Sd42.out.cell (i := 2) rfl (o := 0) rfl, Sd42.out.cell (i := 2) rfl (o := 1) rfl⟩ (fun hS42 => ?_)
          clear hK
          (try simp only [put_rules])
          (refine walkT_ready (rs := [5, 7]) (by kernel_rfl) (by simp) (by decide) ?_; refine AllT.cons rfl (fun K hK => ?_) (AllT.cons rfl (fun K hK => ?_) AllT.nil))
          · (refine step_append_src rfl _ _ rfl Try.underlying24 hi hz0 hz1 hz2 rfl (by decide) _ 0 _ rfl (Sd42.out.own (i := 0) rfl) Bg yss.length capg csg rfl (rows_src Sd42.out (i := 4) rfl) hus1.out (by unfold maxLen; omega) (by omega) ?_; intro vA wA hownA hgA hatA)
            have Sd43 := Sd42.out.own_push (i := 0) rfl (bb _) hownA hgA hatA
            obtain ⟨aA, cA, rfl⟩ := owns_form hownA
            rw [Nat.zero_add, List.nil_append] at Sd43
            clear hownA hgA hatA
            simp only [Nat.zero_add]
            replace Sd43 := Lib.hid Sd43
            clear Sd42
            refine hK.out _ _ ⟨Sd43.out.cell (i := 2) rfl (o := 0) rfl, Sd43.out.cell (i := 2) rfl (o := 1) rfl⟩ (fun hS43 => ?_)
            clear hK
            (try simp only [put_rules])
            (refine walkT_ready (rs := [7]) (by kernel_rfl) (by simp) (by decide) ?_; refine AllT.cons rfl (fun K hK => ?_) AllT.nil)
            go_simp
            have Sd44 := Sd43.out.alloc_box #[.slice D d.length dc] 30
            (try simp only [World.size_alloc, drew_size2] at Sd44)
            replace Sd44 := Lib.hid Sd44
            clear Sd43
            refine hK.out _ _ ⟨Sd44.out.cell (i := 3) rfl (o := 0) rfl, Sd44.out.cell (i := 3) rfl (o := 1) rfl⟩ (fun hS44 => ?_)
            clear hK
            (try simp only [put_rules])
            (refine walkT_ready (rs := [8]) (by kernel_rfl) (by simp) (by decide) ?_; refine AllT.cons rfl (fun K hK => ?_) AllT.nil)
            (refine step_append_src rfl _ _ rfl Try.underlying24 hi hz0 hz1 hz2 rfl (by decide) _ yss.length _ rfl (Sd44.out.own (i := 1) rfl) _ 1 1 [.slice D d.length dc] rfl (Src.one (Sd44.out.cell (i := 0) rfl (o := 0) rfl)) (by simp [Value.oneCell']) (by unfold maxLen; omega) (by omega) ?_; intro vB wB hownB hgB hatB)
            have Sd45 := Sd44.out.own_push (i := 1) rfl (bb _) hownB hgB hatB
            obtain ⟨aB, cB, rfl⟩ := owns_form hownB
            clear hownB hgB hatB
            replace Sd45 := Lib.hid Sd45
            clear Sd44
            refine hK.out _ _ ⟨Sd45.out.cell (i := 3) rfl (o := 0) rfl, Sd45.out.cell (i := 3) rfl (o := 1) rfl⟩ (fun hS45 => ?_)
            clear hK
            (try simp only [put_rules])
            (refine walkT_take (i := 9) (v := ?_) rfl (by kernel_rfl) (by decide) (by kernel_rfl) (by kernel_rfl) (fun _ _ _ h => h) (Or.inl ⟨by rfl, ?_⟩) (by assumption) ?_; rotate_left; (focus (intro w hSw; (try dsimp only at hSw); go_simp; (try with_reducible rfl); done)); (try simp only [put_rules]))
            (refine walkT_done (by kernel_rfl) ?_)
            simp only [List.drop_succ_cons, List.drop_zero]
            have j0 := Sd45.out.cell (i := 2) rfl (o := 0) rfl
            have j1 := Sd45.out.cell (i := 2) rfl (o := 1) rfl
            have q0 := Sd45.out.frozen (i := 2) rfl 0
            have q1 := Sd45.out.frozen (i := 2) rfl 1
            have SF := (Sd45.out.store (i := 2) rfl 0 (.int .i64 vg)).store (i := 2) rfl 1 (.slice aB (yss.length + 1) cB)
            have SG : Hid (Sp w1 _ [Own 30 1 (.slice aB (yss.length + 1) cB) (yss.length + 1) (csg ++ [.slice D d.length dc]), Box _ 26 #[.int .i64 vg, .slice aB (yss.length + 1) cB], Box b_g 26 #[.int .i64 vg, .slice Bg yss.length capg], Own 3 1 (.slice D d.length dc) d.length (d.map (.int .i64)), Rows Ty.int 30 (.slice Bg yss.length capg) csg yss, Box b_f 26 #[.int .i64 n, .slice B xss.length cap]]) := Sp.pick [1, 1, 1, 1, 1, 1] SF rfl
            clear SF Sd45
            go_wp2_with fail
            go_meet
            exact ⟨_, _, _, rfl, SG⟩
          · go_simp
            have Sd46 := Sd42.out.alloc_box #[.slice D d.length dc] 30
            (try simp only [World.size_alloc, drew_size2] at Sd46)
            replace Sd46 := Lib.hid Sd46
            clear Sd42
            refine hK.out _ _ ⟨Sd46.out.cell (i := 3) rfl (o := 0) rfl, Sd46.out.cell (i := 3) rfl (o := 1) rfl⟩ (fun hS46 => ?_)
            clear hK
            (try simp only [put_rules])
            (refine walkT_ready (rs := [5]) (by kernel_rfl) (by simp) (by decide) ?_; refine AllT.cons rfl (fun K hK => ?_) AllT.nil)
            (refine step_append_src rfl _ _ rfl Try.underlying24 hi hz0 hz1 hz2 rfl (by decide) _ 0 _ rfl (Sd46.out.own (i := 1) rfl) Bg yss.length capg csg rfl (rows_src Sd46.out (i := 5) rfl) hus1.out (by unfold maxLen; omega) (by omega) ?_; intro vA wA hownA hgA hatA)
            have Sd47 := Sd46.out.own_push (i := 1) rfl (bb _) hownA hgA hatA
            obtain ⟨aA, cA, rfl⟩ := owns_form hownA
            rw [Nat.zero_add, List.nil_append] at Sd47
            clear hownA hgA hatA
            simp only [Nat.zero_add]
            replace Sd47 := Lib.hid Sd47
            clear Sd46
            refine hK.out _ _ ⟨Sd47.out.cell (i := 3) rfl (o := 0) rfl, Sd47.out.cell (i := 3) rfl (o := 1) rfl⟩ (fun hS47 => ?_)
            clear hK
            (try simp only [put_rules])
            (refine walkT_ready (rs := [8]) (by kernel_rfl) (by simp) (by decide) ?_; refine AllT.cons rfl (fun K hK => ?_) AllT.nil)
            (refine step_append_src rfl _ _ rfl Try.underlying24 hi hz0 hz1 hz2 rfl (by decide) _ yss.length _ rfl (Sd47.out.own (i := 1) rfl) _ 1 1 [.slice D d.length dc] rfl (Src.one (Sd47.out.cell (i := 0) rfl (o := 0) rfl)) (by simp [Value.oneCell']) (by unfold maxLen; omega) (by omega) ?_; intro vB wB hownB hgB hatB)
            have Sd48 := Sd47.out.own_push (i := 1) rfl (bb _) hownB hgB hatB
            obtain ⟨aB, cB, rfl⟩ := owns_form hownB
            clear hownB hgB hatB
            replace Sd48 := Lib.hid Sd48
            clear Sd47
            refine hK.out _ _ ⟨Sd48.out.cell (i := 3) rfl (o := 0) rfl, Sd48.out.cell (i := 3) rfl (o := 1) rfl⟩ (fun hS48 => ?_)
            clear hK
            (try simp only [put_rules])
            (refine walkT_take (i := 9) (v := ?_) rfl (by kernel_rfl) (by decide) (by kernel_rfl) (by kernel_rfl) (fun _ _ _ h => h) (Or.inl ⟨by rfl, ?_⟩) (by assumption) ?_; rotate_left; (focus (intro w hSw; (try dsimp only at hSw); go_simp; (try with_reducible rfl); done)); (try simp only [put_rules]))
            (refine walkT_done (by kernel_rfl) ?_)
            simp only [List.drop_succ_cons, List.drop_zero]
            have j0 := Sd48.out.cell (i := 2) rfl (o := 0) rfl
            have j1 := Sd48.out.cell (i := 2) rfl (o := 1) rfl
            have q0 := Sd48.out.frozen (i := 2) rfl 0
            have q1 := Sd48.out.frozen (i := 2) rfl 1
            have SF := (Sd48.out.store (i := 2) rfl 0 (.int .i64 vg)).store (i := 2) rfl 1 (.slice aB (yss.length + 1) cB)
            have SG : Hid (Sp w1 _ [Own 30 1 (.slice aB (yss.length + 1) cB) (yss.length + 1) (csg ++ [.slice D d.length dc]), Box _ 26 #[.int .i64 vg, .slice aB (yss.length + 1) cB], Box b_g 26 #[.int .i64 vg, .slice Bg yss.length capg], Own 3 1 (.slice D d.length dc) d.length (d.map (.int .i64)), Rows Ty.int 30 (.slice Bg yss.length capg) csg yss, Box b_f 26 #[.int .i64 n, .slice B xss.length cap]]) := Sp.pick [1, 1, 1, 1, 1, 1] SF rfl
            clear SF Sd48
            go_wp2_with fail
            go_meet
            exact ⟨_, _, _, rfl, SG⟩
        · go_simp
          have Sd49 := Sd41.out.alloc_box #[.slice D d.length dc] 30
          (try simp only [World.size_alloc, drew_size2] at Sd49)
          replace Sd49 := Lib.hid Sd49
          clear Sd41
          refine hK.out _ _ ⟨Sd49.out.cell (i := 2) rfl (o := 0) rfl, Sd49.out.cell (i := 2) rfl (o := 1) rfl⟩ (fun hS49 => ?_)
          clear hK
          (try simp only [put_rules])
          (refine walkT_ready (rs := [2]) (by kernel_rfl) (by simp) (by decide) ?_; refine AllT.cons rfl (fun K hK => ?_) AllT.nil)
          go_simp
          have Sd50 := Sd49.out.own_made 30 1
          (try simp only [World.size_alloc, drew_size2] at Sd50)
          replace Sd50 := Lib.hid Sd50
          clear Sd49
          refine hK.out _ _ ⟨Sd50.out.cell (i := 3) rfl (o := 0) rfl, Sd50.out.cell (i := 3) rfl (o := 1) rfl⟩ (fun hS50 => ?_)
          clear hK
          (try simp only [put_rules])
          (refine walkT_ready (rs := [5]) (by kernel_rfl) (by simp) (by decide) ?_; refine AllT.cons rfl (fun K hK => ?_) AllT.nil)
          (refine step_append_src rfl _ _ rfl Try.underlying24 hi hz0 hz1 hz2 rfl (by decide) _ 0 _ rfl (Sd50.out.own (i := 0) rfl) Bg yss.length capg csg rfl (rows_src Sd50.out (i := 5) rfl) hus1.out (by unfold maxLen; omega) (by omega) ?_; intro vA wA hownA hgA hatA)
          have Sd51 := Sd50.out.own_push (i := 0) rfl (bb _) hownA hgA hatA
          obtain ⟨aA, cA, rfl⟩ := owns_form hownA
          rw [Nat.zero_add, List.nil_append] at Sd51
          clear hownA hgA hatA
          simp only [Nat.zero_add]
          replace Sd51 := Lib.hid Sd51
          clear Sd50
          refine hK.out _ _ ⟨Sd51.out.cell (i := 3) rfl (o := 0) rfl, Sd51.out.cell (i := 3) rfl (o := 1) rfl⟩ (fun hS51 => ?_)
          clear hK
          (try simp only [put_rules])
          (refine walkT_ready (rs := [8]) (by kernel_rfl) (by simp) (by decide) ?_; refine AllT.cons rfl (fun K hK => ?_) AllT.nil)
          (refine step_append_src rfl _ _ rfl Try.underlying24 hi hz0 hz1 hz2 rfl (by decide) _ yss.length _ rfl (Sd51.out.own (i := 0) rfl) _ 1 1 [.slice D d.length dc] rfl (Src.one (Sd51.out.cell (i := 1) rfl (o := 0) rfl)) (by simp [Value.oneCell']) (by unfold maxLen; omega) (by omega) ?_; intro vB wB hownB hgB hatB)
          have Sd52 := Sd51.out.own_push (i := 0) rfl (bb _) hownB hgB hatB
          obtain ⟨aB, cB, rfl⟩ := owns_form hownB
          clear hownB hgB hatB
          replace Sd52 := Lib.hid Sd52
          clear Sd51
          refine hK.out _ _ ⟨Sd52.out.cell (i := 3) rfl (o := 0) rfl, Sd52.out.cell (i := 3) rfl (o := 1) rfl⟩ (fun hS52 => ?_)
          clear hK
          (try simp only [put_rules])
          (refine walkT_take (i := 9) (v := ?_) rfl (by kernel_rfl) (by decide) (by kernel_rfl) (by kernel_rfl) (fun _ _ _ h => h) (Or.inl ⟨by rfl, ?_⟩) (by assumption) ?_; rotate_left; (focus (intro w hSw; (try dsimp only at hSw); go_simp; (try with_reducible rfl); done)); (try simp only [put_rules]))
          (refine walkT_done (by kernel_rfl) ?_)
          simp only [List.drop_succ_cons, List.drop_zero]
          have j0 := Sd52.out.cell (i := 2) rfl (o := 0) rfl
          have j1 := Sd52.out.cell (i := 2) rfl (o := 1) rfl
          have q0 := Sd52.out.frozen (i := 2) rfl 0
          have q1 := Sd52.out.frozen (i := 2) rfl 1
          have SF := (Sd52.out.store (i := 2) rfl 0 (.int .i64 vg)).store (i := 2) rfl 1 (.slice aB (yss.length + 1) cB)
          have SG : Hid (Sp w1 _ [Own 30 1 (.slice aB (yss.length + 1) cB) (yss.length + 1) (csg ++ [.slice D d.length dc]), Box _ 26 #[.int .i64 vg, .slice aB (yss.length + 1) cB], Box b_g 26 #[.int .i64 vg, .slice Bg yss.length capg], Own 3 1 (.slice D d.length dc) d.length (d.map (.int .i64)), Rows Ty.int 30 (.slice Bg yss.length capg) csg yss, Box b_f 26 #[.int .i64 n, .slice B xss.length cap]]) := Sp.pick [0, 1, 1, 1, 1, 1] SF rfl
          clear SF Sd52
          go_wp2_with fail
          go_meet
          exact ⟨_, _, _, rfl, SG⟩
      -- region 41 ends
  case rest =>
  clear S16 hus1 c0 c1
  obtain ⟨hb, E, ec, rfl, HS⟩ := hcut
  obtain ⟨Fg, hrg, -⟩ := HS.out.rows_done (i := 4) rfl
  obtain ⟨Gm, hrm⟩ := more_row HS.out (i := 0) (j := 4) (k := 3) rfl rfl rfl hdH.out
  obtain ⟨ng, rfl⟩ := Int.eq_ofNat_of_zero_le (good_cnf hgd.1).1.1
  have heq := areEquivalent_any ng _ _ yss (yss ++ [d]) Fg Gm _ (Ty.row_down hrg) hrm hgd.1 (good_snoc hgd.1 hgd.2 hy60)
  rw [equiv_imp] at heq
  rw [show (ng : Int).toNat = ng by omega] at himp
  rw [himp] at heq
  replace heq := Lib.hid heq
  clear hrg hrm himp hgd
  have c0 := HS.out.cell (i := 2) rfl (o := 0) rfl
  have c1 := HS.out.cell (i := 2) rfl (o := 1) rfl
  have d0 := HS.out.cell (i := 1) rfl (o := 0) rfl
  have d1 := HS.out.cell (i := 1) rfl (o := 1) rfl
  go_wp2_with fail
  refine heq.out.mono ?_
  rintro e w20 ⟨rfl, hb20⟩
  have hB := Lib.hid (HS.out.grow hb20).below
  clear heq HS hb20 c0 c1 d0 d1
  go_wp2_with fail
  go_ret
  exact ⟨rfl, hB.out⟩
end Go.Proofs.Ytmikconjhmhekaa
