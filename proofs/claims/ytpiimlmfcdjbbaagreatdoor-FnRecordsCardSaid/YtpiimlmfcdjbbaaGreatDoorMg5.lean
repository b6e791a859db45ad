/- Lemmas and contracts for a law, put together out of several texts: BmG. -/
import Derived.Test.YtpiimlmfcdjbbaaGreatDoorMg4
import Derived.Deep.DeepCutAuto
import Derived.Deep.CutBlock
/- Contracts: a record entered in a book, in the program. -/
namespace Go.Proofs.YtpiimlmfcdjbbaaGreatDoor
open Go.RowKit

/-- The sentinel of the books lies at a. -/
def ErrB (a : Addr) (w : World) : Prop := w.cell? ⟨0, 0, none⟩ = some (.iface 138 (.pointer (some a)))
theorem ErrB.grow {a : Addr} {w w' : World} (h : ErrB a w) (hb : Below w.heap.size w w') : ErrB a w' := (hb.cell (World.block_lt_of_cell? _ _ h)).trans h
theorem isBookR_at {v : Value} {xs : List Rec} {F : List Nat} {w : World} {q : Bool} (hx : rcTy.row false w v xs F) (h : bookB xs = q) :
    Calls Tryz.prog 8 #[v] w fun e w' => e = .returned (.bool q) ∧ Below w.heap.size w w' := h ▸ isBook_any v xs F w hx
/-- Whether a record can be entered. -/
def entOk (xs : List Rec) (r : Rec) : Bool := bookB xs && (bookB (entR xs r) && recB r)
def EntPost (a : Addr) (ok : Bool) (ys : List Rec) (w : World) (e : Ending) (w' : World) : Prop :=
  (ok = true ∧ ∃ A c, e = .returned (.tuple #[.slice A ys.length c, .nilIface]) ∧ Sp w w' [Recs (.slice A ys.length c) ys]) ∨
    (ok = false ∧ e = .returned (.tuple #[.slice none 0 0, .iface 138 (.pointer (some a))]) ∧ Below w.heap.size w w')
theorem book_one (r : Rec) : bookB [r] = recB r := by
  unfold bookB bkOkTo
  simp [List.range_succ, bkOk]
/-- What is behind the switch: the book with the record in it, and the record's own box. -/
def EntMid (w : World) (r : Rec) (ys : List Rec) (v : Value) (W : World) : Prop := ∃ A c, v = .slice A ys.length c ∧ Sp w W [Recs (.slice A ys.length c) ys, Box w.heap.size 30 #[.string (ms r.name), .int .i64 r.sys, .int .i64 r.size, .int .i64 r.extra]]
theorem one_row {w : World} {b : Nat} {r : Rec} (hr : rcOk r) (h0 : w.cell? ⟨b, 0, none⟩ = some (.string (ms r.name))) (h1 : w.cell? ⟨b, 1, none⟩ = some (.int .i64 r.sys)) (h2 : w.cell? ⟨b, 2, none⟩ = some (.int .i64 r.size)) (h3 : w.cell? ⟨b, 3, none⟩ = some (.int .i64 r.extra)) :
    rcTy.row false w (.slice (some ⟨b, 0, none⟩) 1 1) [r] [b] :=
  row_flat_mk (wr := false) (w := w) (b := b) (off := 0) (cap := 1) (n := 4) (enc := rcEnc) (good := rcOk) (hn := fun _ => rfl) (xs := [r]) (by simpa using hr) (by simp) (by decide) (by simp) (by decide) (fun j hj i u hu => by
    obtain rfl : j = 0 := by simpa using hj
    rw [Nat.zero_mul, Nat.zero_add, Nat.zero_add]
    refine ⟨?_, fun h => by cases h⟩
    match i, hu with
    | 0, hu => simp [rcEnc] at hu; subst hu; exact h0
    | 1, hu => simp [rcEnc] at hu; subst hu; exact h1
    | 2, hu => simp [rcEnc] at hu; subst hu; exact h2
    | 3, hu => simp [rcEnc] at hu; subst hu; exact h3
    | i + 4, hu => simp [rcEnc] at hu)

set_option maxRecDepth 100000 in
set_option maxHeartbeats 8000000 in
theorem enter_any (v : Value) (xs : List Rec) (r : Rec) (F : List Nat) (a : Addr) (w : World) (hx : rcTy.row false w v xs F) (hr : rcOk r) (hE : ErrB a w) :
    Calls Tryz.prog 19 #[v, rcV r] w (EntPost a (entOk xs r) (entR xs r) w) := by
  obtain ⟨A0, c0, rfl, -, hg0, -⟩ := rec_src hx
  have S0 := Lib.hid ((Sp.start w).alloc_box #[.string (ms r.name), .int .i64 r.sys, .int .i64 r.size, .int .i64 r.extra] 30)
  replace hE := Lib.hid hE
  have hx2 := Lib.hid (fun W (h : Below w.heap.size w W) => Ty.row_below hx h (Ty.row_lt hx))
  clear hx
  cases hb : bookB xs
  · have hR : Hid (entOk xs r = false) := by unfold Hid entOk; rw [hb]; rfl
    go_enter Tryz.func19, Tryz.ntmps19
    go_wp2_with fail
    refine (isBookR_at (hx2.out _ S0.out.below) hb).mono ?_
    rintro e w1 ⟨rfl, hb1⟩
    have hB := btr S0.out.below hb1
    have ke := (hE.out.grow hB)
    unfold ErrB at ke
    have kd := cell_regrown ke
    replace hB := Lib.hid hB
    clear S0 hb1
    go_wp2_with fail
    refine wp_region_quiet_below (by kernel_rfl) (by kernel_rfl) ?_
    repeat (any_goals (first | go_big_quiet_step (fail)))
    refine wpQuiet_nil ?_
    rintro w2 ⟨p, rfl⟩
    have hB2 := Lib.hid (btr hB.out (below_regrown _ p.d p.os))
    clear hB ke kd
    go_wp2_with fail
    go_ret2
    exact .inr ⟨hR.out, rfl, hB2.out⟩
  have h24 := book_le' hb
  have hlen := entR_len xs r
  have hall : Hid (∀ x ∈ entR xs r, rcOk x) := entR_all hg0 hr
  have hk := posR_le xs r
  obtain ⟨K, hK⟩ : ∃ K, posR xs r = K := ⟨_, rfl⟩
  have hKr : Hid (posR xs r = K) := hK
  rw [hK] at hk
  replace hb := Lib.hid hb
  go_enter Tryz.func19, Tryz.ntmps19
  go_wp2_with fail
  refine (isBookR_at (hx2.out _ S0.out.below) hb.out).mono ?_
  rintro e w1 ⟨rfl, hb1⟩
  have S1 := Lib.hid (S0.out.grow hb1)
  clear S0 hb1
  go_wp2_with fail
  refine (cloneR_any _ xs F _ (hx2.out _ S1.out.below) (by omega)).mono ?_
  rintro e w2 ⟨A, c, rfl, SC⟩
  have S2 := Lib.hid (S1.out.seq SC)
  clear S1 SC hx2
  have b0 := S2.out.cell (i := 1) rfl (o := 0) rfl
  have b1 := S2.out.cell (i := 1) rfl (o := 1) rfl
  have b2 := S2.out.cell (i := 1) rfl (o := 2) rfl
  have b3 := S2.out.cell (i := 1) rfl (o := 3) rfl
  obtain ⟨F2, hr2, -, -⟩ := S2.out.recs_row (i := 0) rfl hg0
  have hsr := searchRec_any _ xs r F2 w2 (row_read hr2) hb.out
  rw [hK] at hsr
  replace hsr := Lib.hid hsr
  clear hr2 hK
  go_wp2_with fail
  refine hsr.out.mono ?_
  rintro e w3 ⟨rfl, hb3⟩
  have S3 := Lib.hid (S2.out.grow hb3)
  clear S2 hb3 hsr b0 b1 b2 b3
  go_upto_block 0 with fail
  go_cut [6, 8] (fun v6 _ wx => Hid (EntMid w r (entR xs r) v6 wx))
  case first =>
    have b0 := S3.out.cell (i := 1) rfl (o := 0) rfl
    have b1 := S3.out.cell (i := 1) rfl (o := 1) rfl
    have b2 := S3.out.cell (i := 1) rfl (o := 2) rfl
    have b3 := S3.out.cell (i := 1) rfl (o := 3) rfl
    cases hh : hitR xs r
    · have hent : Hid ((entR xs r).flatMap rcEnc = (xs.flatMap rcEnc).take (K * 4) ++ rcEnc r ++ (xs.flatMap rcEnc).drop (K * 4) ∧ (entR xs r).length = xs.length + 1) := by
        have e1 : entR xs r = xs.take K ++ r :: xs.drop K := by
          rcases Nat.lt_or_ge K xs.length with h | h
          · exact entR_no hKr.out h (by rw [← hitR_at hKr.out h]; exact hh)
          · exact entR_end hKr.out (by omega)
        rw [Hid, e1, flat4_take, flat4_drop]
        refine ⟨by simp, ?_⟩
        rw [List.length_append, List.length_cons, List.length_take, List.length_drop]; omega
      have S4 := S3.out.alloc_box #[.string (ms r.name), .int .i64 r.sys, .int .i64 r.size, .int .i64 r.extra] 30
      have hv : (w3.alloc (.cells #[.string (ms r.name), .int .i64 r.sys, .int .i64 r.size, .int .i64 r.extra] 30)).heap[w3.heap.size]? = some (.cells (rcEnc r).toArray 30 (0, 0)) := (S4.box (i := 0) rfl).2.2
      have hown := S4.own (i := 1) rfl
      have hne : ∀ g, A = some ⟨g, 0, none⟩ → w3.heap.size ≠ g := by
        rintro g rfl e
        have := owns_lt (S3.out.own (i := 0) rfl) (g := g) rfl
        omega
      have hins := Lib.hid (insertRec_any A xs.length c K w3.heap.size 1 (xs.flatMap rcEnc) (rcEnc r) 30 _ hk (by decide) (by omega) hown hv hne rfl (by intro u hu; exact rec_ones [r] u (by simpa using hu)) (rec_ones xs))
      replace S4 := Lib.hid S4
      clear S3 hv hown hne hh
      go_wp2_with fail
      refine hins.out.mono ?_
      rintro e w4 ⟨v', rfl, hown4, hg4, hat4⟩
      have S5 := S4.out.own_push (i := 1) rfl (bb _) hown4 hg4 hat4
      have S6 := S5.tail
      obtain ⟨A4, c4, rfl⟩ := owns_form hown4
      have hM : Hid (EntMid w r (entR xs r) (.slice A4 (xs.length + 1) c4) w4) := by
        refine ⟨A4, c4, by rw [hent.out.2], ?_⟩
        unfold Recs
        rw [hent.out.1, hent.out.2]
        exact S6
      clear S4 S5 S6 hown4 hg4 hat4 hins hent b0 b1 b2 b3
      go_wp2_with fail
      go_meet
      exact hM
    · have hKl : K < xs.length := by
        rcases Nat.lt_or_ge K xs.length with h | h
        · exact h
        · rw [hitR_end hKr.out (by omega)] at hh; cases hh
      have hent : Hid (entR xs r = xs.set K (betterR xs[K] r)) := entR_yes hKr.out hKl (by rw [← hitR_at hKr.out hKl]; exact hh)
      obtain ⟨g, c', cur, e1, -, hgb, -, -, -, ht⟩ := own_block (S3.out.own (i := 0) rfl) (by omega)
      obtain ⟨rfl, -, rfl⟩ := (show A = some ⟨g, 0, none⟩ ∧ True ∧ c = c' by simpa using e1)
      have q2 := own_at hgb ht (o := K * 4 + 2) (by omega)
      have q3 := own_at hgb ht (o := K * 4 + 3) (by omega)
      have q0 := own_at hgb ht (o := K * 4) (by omega)
      have q1 := own_at hgb ht (o := K * 4 + 1) (by omega)
      have f0 := q0.2
      have f1 := q1.2
      have f2 := q2.2
      have f3 := q3.2
      have k2 := q2.1.trans (flat4_get hKl (j := 2) rfl)
      have k3 := q3.1.trans (flat4_get hKl (j := 3) rfl)
      have k0 := q0.1.trans (flat4_get hKl (j := 0) rfl)
      have k1 := q1.1.trans (flat4_get hKl (j := 1) rfl)
      have hKI : (K : Int) < xs.length := by omega
      clear q0 q1 q2 q3 hgb ht e1 hh
      generalize hq : xs[K] = q at *
      have hMn := Lib.hid (fun (ho : overR q r = false) W (h : Sp w W [Recs (.slice (some ⟨g, 0, none⟩) xs.length c) xs, Box w.heap.size 30 #[.string (ms r.name), .int .i64 r.sys, .int .i64 r.size, .int .i64 r.extra]]) => (show Hid (EntMid w r (entR xs r) (.slice (some ⟨g, 0, none⟩) xs.length c) W) from by
        have e : entR xs r = xs := by
          rw [hent.out, betterR, ho, if_neg (by decide), ← hq]
          exact List.set_getElem_self hKl
        exact ⟨_, _, by rw [e], by rw [e]; exact h⟩))
      have hMy := Lib.hid (fun (ho : overR q r = true) W (h : Sp w W [Own 30 4 (.slice (some ⟨g, 0, none⟩) xs.length c) xs.length (((((xs.flatMap rcEnc).set (K * 4) (.string (ms r.name))).set (K * 4 + 1) (.int .i64 r.sys)).set (K * 4 + 2) (.int .i64 r.size)).set (K * 4 + 3) (.int .i64 r.extra)), Box w.heap.size 30 #[.string (ms r.name), .int .i64 r.sys, .int .i64 r.size, .int .i64 r.extra]]) => (show Hid (EntMid w r (entR xs r) (.slice (some ⟨g, 0, none⟩) xs.length c) W) from by
        have e : entR xs r = xs.set K r := by rw [hent.out, betterR, ho, if_pos rfl]
        have el : (xs.set K r).length = xs.length := List.length_set
        rw [flat4_set hKl r] at h
        refine ⟨some ⟨g, 0, none⟩, c, by rw [e, el], ?_⟩
        rw [e]
        unfold Recs
        rw [el]
        exact h))
      have p2 := cell_regrown k2
      have p3 := cell_regrown k3
      have c2 := cell_regrown b2
      have c3 := cell_regrown b3
      have ov : ∀ A B C : Bool, decide (r.size < q.size) = A → decide (q.size = r.size) = B → decide (r.extra < q.extra) = C → overR q r = (A || (B && C)) := fun A B C h1 h2 h3 => by unfold overR; rw [h1, h2, h3]
      replace ov := Lib.hid ov
      clear k0 k1 f0 f1 f2 f3 b0 b1 b2 b3 k2 k3 hent hq
      by_cases hA : r.size < q.size
      ·
        have ho : overR q r = true := by rw [ov.out true _ _ (decide_eq_true hA) rfl rfl]; rfl
        clear ov
        go_wp2_with fail
        refine wp_region_quiet_below (by kernel_rfl) (by kernel_rfl) ?_
        repeat (any_goals (first | go_big_quiet_step (fail)))
        refine wpQuiet_nil ?_
        rintro w4 ⟨p, hw4⟩
        have S4 := S3.out.grow (hw4 ▸ below_regrown _ _ _ : Below w3.heap.size w3 w4)
        clear hw4
        clear S3 p2 p3 c2 c3
        have S5 := (((S4.own_put (i := 0) rfl (o := K * 4) (.string (ms r.name)) (by omega)).own_put (i := 0) rfl (o := K * 4 + 1) (.int .i64 r.sys) (by omega)).own_put (i := 0) rfl (o := K * 4 + 2) (.int .i64 r.size) (by omega)).own_put (i := 0) rfl (o := K * 4 + 3) (.int .i64 r.extra) (by omega)
        have hM := hMy.out ho _ S5
        obtain ⟨g', c', cur, e1, -, hgb, -, -, -, ht⟩ := own_block (S4.own (i := 0) rfl) (by omega)
        cases e1
        have q2 := own_at hgb ht (o := K * 4 + 2) (by omega)
        have q3 := own_at hgb ht (o := K * 4 + 3) (by omega)
        have q0 := own_at hgb ht (o := K * 4) (by omega)
        have q1 := own_at hgb ht (o := K * 4 + 1) (by omega)
        have f0 := q0.2
        have f1 := q1.2
        have f2 := q2.2
        have f3 := q3.2
        have k2 := q2.1.trans (flat4_get hKl (j := 2) rfl)
        have k3 := q3.1.trans (flat4_get hKl (j := 3) rfl)
        have k0 := q0.1.trans (flat4_get hKl (j := 0) rfl)
        have k1 := q1.1.trans (flat4_get hKl (j := 1) rfl)
        have b0 := S4.cell (i := 1) rfl (o := 0) rfl
        have b1 := S4.cell (i := 1) rfl (o := 1) rfl
        have b2 := S4.cell (i := 1) rfl (o := 2) rfl
        have b3 := S4.cell (i := 1) rfl (o := 3) rfl
        clear q0 q1 q2 q3 hgb ht S4 S5 hMn hMy
        go_wp2_with fail
        go_meet
        exact hM
      by_cases hB : q.size = r.size
      · by_cases hC : r.extra < q.extra
        ·
          have ho : overR q r = true := by rw [ov.out false true true (decide_eq_false hA) (decide_eq_true hB) (decide_eq_true hC)]; rfl
          clear ov
          go_wp2_with fail
          refine wp_region_quiet_below (by kernel_rfl) (by kernel_rfl) ?_
          repeat (any_goals (first | go_big_quiet_step (fail)))
          refine wpQuiet_nil ?_
          rintro w4 ⟨p, hw4⟩
          have S4 := S3.out.grow (hw4 ▸ below_regrown _ _ _ : Below w3.heap.size w3 w4)
          clear hw4
          clear S3 p2 p3 c2 c3
          have S5 := (((S4.own_put (i := 0) rfl (o := K * 4) (.string (ms r.name)) (by omega)).own_put (i := 0) rfl (o := K * 4 + 1) (.int .i64 r.sys) (by omega)).own_put (i := 0) rfl (o := K * 4 + 2) (.int .i64 r.size) (by omega)).own_put (i := 0) rfl (o := K * 4 + 3) (.int .i64 r.extra) (by omega)
          have hM := hMy.out ho _ S5
          obtain ⟨g', c', cur, e1, -, hgb, -, -, -, ht⟩ := own_block (S4.own (i := 0) rfl) (by omega)
          cases e1
          have q2 := own_at hgb ht (o := K * 4 + 2) (by omega)
          have q3 := own_at hgb ht (o := K * 4 + 3) (by omega)
          have q0 := own_at hgb ht (o := K * 4) (by omega)
          have q1 := own_at hgb ht (o := K * 4 + 1) (by omega)
          have f0 := q0.2
          have f1 := q1.2
          have f2 := q2.2
          have f3 := q3.2
          have k2 := q2.1.trans (flat4_get hKl (j := 2) rfl)
          have k3 := q3.1.trans (flat4_get hKl (j := 3) rfl)
          have k0 := q0.1.trans (flat4_get hKl (j := 0) rfl)
          have k1 := q1.1.trans (flat4_get hKl (j := 1) rfl)
          have b0 := S4.cell (i := 1) rfl (o := 0) rfl
          have b1 := S4.cell (i := 1) rfl (o := 1) rfl
          have b2 := S4.cell (i := 1) rfl (o := 2) rfl
          have b3 := S4.cell (i := 1) rfl (o := 3) rfl
          clear q0 q1 q2 q3 hgb ht S4 S5 hMn hMy
          go_wp2_with fail
          go_meet
          exact hM
        ·
          have ho : overR q r = false := by rw [ov.out false true false (decide_eq_false hA) (decide_eq_true hB) (decide_eq_false hC)]; rfl
          clear ov
          go_wp2_with fail
          refine wp_region_quiet_below (by kernel_rfl) (by kernel_rfl) ?_
          repeat (any_goals (first | go_big_quiet_step (fail)))
          refine wpQuiet_nil ?_
          rintro w4 ⟨p, hw4⟩
          have S4 := S3.out.grow (hw4 ▸ below_regrown _ _ _ : Below w3.heap.size w3 w4)
          clear hw4
          clear S3 p2 p3 c2 c3
          have hM := hMn.out ho _ S4
          clear S4 hMn hMy
          go_wp2_with fail
          go_meet
          exact hM
      ·
        have hAb : decide (r.size < q.size) = false := decide_eq_false hA
        have hBb : (q.size == r.size) = false := by simpa using hB
        have ho : overR q r = false := by rw [ov.out false false _ (decide_eq_false hA) (decide_eq_false hB) rfl]; rfl
        clear ov
        go_wp2_with fail
        refine wp_region_quiet_below (by kernel_rfl) (by kernel_rfl) ?_
        repeat (any_goals (first | go_big_quiet_step (fail)))
        refine wpQuiet_nil ?_
        rintro w4 ⟨p, hw4⟩
        have S4 := S3.out.grow (hw4 ▸ below_regrown _ _ _ : Below w3.heap.size w3 w4)
        clear hw4
        clear S3 p2 p3 c2 c3
        have hM := hMn.out ho _ S4
        clear S4 hMn hMy
        go_wp2_with fail
        go_meet
        exact hM
  case rest =>
    obtain ⟨A6, c6, rfl, S6⟩ := hcut.out
    clear hcut S3
    generalize hys : entR xs r = ys at *
    have hlen2 : ys.length ≤ 25 := by omega
    obtain ⟨F6, hr6, -, -⟩ := S6.recs_row (i := 0) rfl hall.out
    have b0 := S6.cell (i := 1) rfl (o := 0) rfl
    have b1 := S6.cell (i := 1) rfl (o := 1) rfl
    have b2 := S6.cell (i := 1) rfl (o := 2) rfl
    have b3 := S6.cell (i := 1) rfl (o := 3) rfl
    replace S6 := Lib.hid S6
    replace hr6 := Lib.hid (row_read hr6)
    cases hy : bookB ys
    · have hR : Hid (entOk xs r = false) := by unfold Hid entOk; rw [hys, hy, Bool.false_and, Bool.and_false]
      have S7 := Lib.hid (fun W (h : Below wc.heap.size wc W) => S6.out.grow h)
      clear b0 b1 b2 b3
      go_wp2_with fail
      refine (isBookR_at hr6.out hy).mono ?_
      rintro e w7 ⟨rfl, hb7⟩
      have S8 := Lib.hid (S7.out _ hb7)
      have kd := cell_regrown (show w7.cell? ⟨0, 0, none⟩ = _ from hE.out.grow S8.out.below)
      clear S7 S6 hr6 hb7
      go_wp2_with fail
      refine wp_region_quiet_below (by kernel_rfl) (by kernel_rfl) ?_
      repeat (any_goals (first | go_big_quiet_step (fail)))
      refine wpQuiet_nil ?_
      rintro w9 ⟨p, rfl⟩
      have hB2 := Lib.hid (S8.out.grow (below_regrown _ p.d p.os)).below
      clear S8 kd
      go_wp2_with fail
      go_ret2
      exact .inr ⟨hR.out, rfl, hB2.out⟩
    · have S7 := Lib.hid (fun W (h : Below wc.heap.size wc W) => S6.out.grow h)
      clear b0 b1 b2 b3
      cases hrb : recB r
      · have hR : Hid (entOk xs r = false) := by unfold Hid entOk; rw [hys, hrb, Bool.and_false, Bool.and_false]
        go_wp2_with fail
        refine (isBookR_at hr6.out hy).mono ?_
        rintro e w7 ⟨rfl, hb7⟩
        have S8 := (S7.out _ hb7)
        have b0 := S8.cell (i := 1) rfl (o := 0) rfl
        have b1 := S8.cell (i := 1) rfl (o := 1) rfl
        have b2 := S8.cell (i := 1) rfl (o := 2) rfl
        have b3 := S8.cell (i := 1) rfl (o := 3) rfl
        have S9 := S8.alloc_box #[.string (ms r.name), .int .i64 r.sys, .int .i64 r.size, .int .i64 r.extra] 30
        have hrow := Lib.hid (one_row hr (S9.cell (i := 0) rfl (o := 0) rfl) (S9.cell (i := 0) rfl (o := 1) rfl) (S9.cell (i := 0) rfl (o := 2) rfl) (S9.cell (i := 0) rfl (o := 3) rfl))
        replace S9 := Lib.hid S9
        clear S8 S7 S6 hr6 hb7
        go_wp2_with fail
        refine (isBookR_at hrow.out ((book_one r).trans hrb)).mono ?_
        rintro e w9 ⟨rfl, hb9⟩
        have S10 := Lib.hid (S9.out.grow hb9)
        have kd := cell_regrown (show w9.cell? ⟨0, 0, none⟩ = _ from hE.out.grow S10.out.below)
        clear S9 hrow hb9 b0 b1 b2 b3
        go_wp2_with fail
        refine wp_region_quiet_below (by kernel_rfl) (by kernel_rfl) ?_
        repeat (any_goals (first | go_big_quiet_step (fail)))
        refine wpQuiet_nil ?_
        rintro w11 ⟨p, rfl⟩
        have hB2 := Lib.hid (S10.out.grow (below_regrown _ p.d p.os)).below
        clear S10 kd
        go_wp2_with fail
        go_ret2
        exact .inr ⟨hR.out, rfl, hB2.out⟩
      · have hR : Hid (entOk xs r = true) := by unfold Hid entOk; rw [hb.out, hys, hy, hrb]; rfl
        go_wp2_with fail
        refine (isBookR_at hr6.out hy).mono ?_
        rintro e w7 ⟨rfl, hb7⟩
        have S8 := (S7.out _ hb7)
        have b0 := S8.cell (i := 1) rfl (o := 0) rfl
        have b1 := S8.cell (i := 1) rfl (o := 1) rfl
        have b2 := S8.cell (i := 1) rfl (o := 2) rfl
        have b3 := S8.cell (i := 1) rfl (o := 3) rfl
        have S9 := S8.alloc_box #[.string (ms r.name), .int .i64 r.sys, .int .i64 r.size, .int .i64 r.extra] 30
        have hrow := Lib.hid (one_row hr (S9.cell (i := 0) rfl (o := 0) rfl) (S9.cell (i := 0) rfl (o := 1) rfl) (S9.cell (i := 0) rfl (o := 2) rfl) (S9.cell (i := 0) rfl (o := 3) rfl))
        replace S9 := Lib.hid S9
        clear S8 S7 S6 hr6 hb7
        go_wp2_with fail
        refine (isBookR_at hrow.out ((book_one r).trans hrb)).mono ?_
        rintro e w9 ⟨rfl, hb9⟩
        have S10 := Lib.hid ((S9.out.grow hb9).pick [1] rfl)
        clear S9 hrow hb9 b0 b1 b2 b3
        go_wp2_with fail
        go_ret2
        exact .inl ⟨hR.out, _, _, rfl, S10.out⟩
end Go.Proofs.YtpiimlmfcdjbbaaGreatDoor
