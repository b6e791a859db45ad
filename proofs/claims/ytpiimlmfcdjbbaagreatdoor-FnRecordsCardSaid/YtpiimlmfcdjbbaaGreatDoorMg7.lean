/- Lemmas and contracts for a law, put together out of several texts: BmI. -/
import Derived.Test.YtpiimlmfcdjbbaaGreatDoorMg6
/- Contracts: a record entered in a book, in the reference. Printed by gen_bmi.py. -/
namespace Go.Proofs.YtpiimlmfcdjbbaaGreatDoor
open Go.RowKit

theorem Src.cut {w : World} {A : Option Addr} {m cap size k : Nat} {news : List Value} (h : Src w A m size news) (hA : A = none ∨ ∃ b off, A = some ⟨b, off, none⟩) (hk : k ≤ m) (hm : m ≤ cap) : Src w (cutA A cap k size) (m - k) size (news.drop (k * size)) := by
  rcases hA with rfl | ⟨b, off, rfl⟩
  · exact h.from_nil hk
  · exact h.from hk hm
theorem goodR_at {v : Value} {xs : List Rec} {F : List Nat} {w : World} {q : Bool} (hx : rcTy.row false w v xs F) (h : bookB xs = q) :
    Calls Tryz.prog 20 #[v] w fun e w' => e = .returned (.bool q) ∧ Below w.heap.size w w' := h ▸ l31Good_any v xs F w hx
/-- The book with the record in it, if it is one. -/
def entO (xs : List Rec) (r : Rec) : Option (List Rec) := if bookB (entR xs r) then some (entR xs r) else none
theorem entO_yes {xs : List Rec} {r : Rec} (h : bookB (entR xs r) = true) : entO xs r = some (entR xs r) := by unfold entO; rw [if_pos h]
theorem entO_no {xs : List Rec} {r : Rec} (h : bookB (entR xs r) = false) : entO xs r = none := by unfold entO; rw [h]; rfl
/-- Whether the record at k stands in the place of r. -/
def atR (xs : List Rec) (r : Rec) (k : Nat) : Bool := match xs[k]? with
  | some q => sameR q r
  | none => false
theorem src_rec {w : World} {b : Nat} {r : Rec} (h0 : w.cell? ⟨b, 0, none⟩ = some (.string (ms r.name))) (h1 : w.cell? ⟨b, 1, none⟩ = some (.int .i64 r.sys)) (h2 : w.cell? ⟨b, 2, none⟩ = some (.int .i64 r.size)) (h3 : w.cell? ⟨b, 3, none⟩ = some (.int .i64 r.extra)) : Src w (some ⟨b, 0, none⟩) 1 4 (rcEnc r) :=
  .inr ⟨_, rfl, rfl, fun j u hj => by
    rw [add_none, Nat.zero_add]
    match j, hj with
    | 0, hj => simp [rcEnc] at hj; subst hj; exact h0
    | 1, hj => simp [rcEnc] at hj; subst hj; exact h1
    | 2, hj => simp [rcEnc] at hj; subst hj; exact h2
    | 3, hj => simp [rcEnc] at hj; subst hj; exact h3
    | j + 4, hj => simp [rcEnc] at hj⟩
theorem rec_one (r : Rec) : ∀ u ∈ rcEnc r, u.oneCell' = true := fun u hu => rec_ones [r] u (by simpa using hu)
/-- The list that is built. -/
def EntRow (w : World) (r : Rec) (ys : List Rec) (v : Value) (W : World) : Prop := ∃ A c, v = .slice A ys.length c ∧ Sp w W [Recs (.slice A ys.length c) ys]
theorem ent_row {w W : World} {r : Rec} {ys : List Rec} {A : Option Addr} {n c : Nat} {cs : List Value} (h1 : ys.flatMap rcEnc = cs) (h2 : ys.length = n) (h : Sp w W [Own 30 4 (.slice A n c) n cs]) : Hid (EntRow w r ys (.slice A n c) W) := by
  subst h1; subst h2
  exact ⟨A, c, rfl, h⟩
/-- What is known of the place k. -/
def HitIs (xs : List Rec) (r : Rec) (k : Nat) (q : Bool) : Prop := (q = false → entR xs r = xs.take k ++ r :: xs.drop k) ∧ (q = true → ∃ h : k < xs.length, entR xs r = xs.set k (betterR xs[k] r))
theorem HitIs.no {xs : List Rec} {r : Rec} {k : Nat} (h : entR xs r = xs.take k ++ r :: xs.drop k) : HitIs xs r k false := ⟨fun _ => h, fun h => by cases h⟩
theorem HitIs.yes {xs : List Rec} {r : Rec} {k : Nat} (h1 : k < xs.length) (h : entR xs r = xs.set k (betterR xs[k] r)) : HitIs xs r k true := ⟨fun h => (by cases h), fun _ => ⟨h1, h⟩⟩
theorem mrg_no {o : Option (List Rec)} {w W : World} {A : Option Addr} {c : Nat} (h : o = none) (hS : Sp w W [Own 30 4 (.slice A 0 c) 0 []]) : MrgPost o w (.returned (.tuple #[.slice A 0 c, .bool false])) W := by
  subst h
  exact ⟨A, c, rfl, hS⟩
theorem mrg_yes {o : Option (List Rec)} {ys : List Rec} {w W : World} {A : Option Addr} {c : Nat} (h : o = some ys) (hS : Sp w W [Recs (.slice A ys.length c) ys]) : MrgPost o w (.returned (.tuple #[.slice A ys.length c, .bool true])) W := by
  subst h
  exact ⟨A, c, rfl, hS⟩
theorem rc_good {xs : List Rec} (h : ∀ x ∈ xs, rcOk x) {k : Nat} (hk : k < xs.length) : rcOk xs[k] := h _ (List.getElem_mem hk)

set_option maxRecDepth 100000 in
set_option maxHeartbeats 8000000 in
theorem l31Enter_any (A : Option Addr) (c : Nat) (xs : List Rec) (r : Rec) (F : List Nat) (w : World) (hx : rcTy.row false w (.slice A xs.length c) xs F) (hA : A = none ∨ ∃ b off, A = some ⟨b, off, none⟩) (hr : rcOk r) (hl : xs.length ≤ 100) :
    Calls Tryz.prog 21 #[.slice A xs.length c, rcV r] w (MrgPost (entO xs r) w) := by
  obtain ⟨i0, hi, hz0, hz1, hz2⟩ := info_parts infoRc
  obtain ⟨a', c', e, hx1, hx2, hg, hx3⟩ := row_rc hx
  obtain ⟨A', c'', e', hsr, -, -⟩ := rec_src hx
  simp only [Value.slice.injEq] at e e'
  obtain ⟨rfl, -, rfl⟩ := e
  obtain ⟨rfl, -, rfl⟩ := e'
  have S0 := Lib.hid ((Sp.start w).alloc_box #[.string (ms r.name), .int .i64 r.sys, .int .i64 r.size, .int .i64 r.extra] 30)
  replace hsr := Lib.hid hsr
  replace hA := Lib.hid hA
  have hgn := Lib.hid (entR_all hg hr)
  have hlen := entR_len xs r
  clear hx
  go_enter Tryz.func21, Tryz.ntmps21
  go_upto_block 0 with fail
  go_cut [6] (fun v6 wx => ∃ k : Nat, k ≤ xs.length ∧ v6 = .int .i64 k ∧ Hid (posR xs r = k) ∧ Hid (Sp w wx [Box w.heap.size 30 #[.string (ms r.name), .int .i64 r.sys, .int .i64 r.size, .int .i64 r.extra]]))
  case first =>
    go_wp2_with fail
    go_loopw [6] (fun vi wr => ∃ k : Nat, k ≤ xs.length ∧ vi = .int .i64 k ∧ Hid (∀ j (hj : j < xs.length), j < k → beforeB xs[j] r = true) ∧ Hid (Sp w wr [Box w.heap.size 30 #[.string (ms r.name), .int .i64 r.sys, .int .i64 r.size, .int .i64 r.extra]])) (fun vi _ => xs.length - (intOf vi).toNat)
    case atStart => exact ⟨0, Nat.zero_le _, rfl, fun _ _ h => absurd h (by omega), S0⟩
    case round =>
      obtain ⟨k, hk, rfl, HD, HS⟩ := hrel
      clear S0
      have b0 := cell_regrown (HS.out.cell (i := 0) rfl (o := 0) rfl)
      have b1 := cell_regrown (HS.out.cell (i := 0) rfl (o := 1) rfl)
      by_cases hlt : k < xs.length
      · rcases hx3 with ⟨rfl, rfl⟩ | ⟨hxn, b, off, rfl, rfl, hxc⟩
        · exact absurd hlt (by simp)
        obtain ⟨p0, p1, p2, p3⟩ := hxc k hlt
        have hp := HS.out.below.block b p0.lt
        have k0 := cell_regrown (p0.keep hp).1
        have k1 := cell_regrown (p1.keep hp).1
        have k2 := cell_regrown (p2.keep hp).1
        have k3 := cell_regrown (p3.keep hp).1
        have hlI : (k : Int) < xs.length := by omega
        clear p0 p1 p2 p3 hp hxc
        cases hq : beforeB xs[k] r
        · have hP : Hid (posR xs r = k) := posR_eq hk (fun j hj hjk => HD.out j hj hjk) (fun _ => hq)
          have hcall := Lib.hid (fun w => l31Before_at (r := xs[k]) (n := r.name) (s := r.sys) hq w)
          clear HD hq
          generalize xs[k] = q at *
          go_wp2_with fail
          refine wp_region_quiet_below (by kernel_rfl) (by kernel_rfl) ?_
          repeat (any_goals (first | go_big_quiet_step ((go_at_call 51; exact Calls.regrown_of (hcall.out _)))))
          refine wpQuiet_nil ?_
          rintro w1 ⟨p, hw1⟩
          have S1 := Lib.hid (HS.out.grow (hw1 ▸ below_regrown _ _ _ : Below wr.heap.size wr w1))
          clear hw1 HS b0 b1 k0 k1 k2 k3 hcall
          go_wp2_with fail
          go_meet
          exact ⟨k, hk, rfl, hP, S1⟩
        · have HD2 : Hid (∀ j (hj : j < xs.length), j < k + 1 → beforeB xs[j] r = true) := fun j hj hjk => by
            rcases Nat.lt_or_ge j k with h | h
            · exact HD.out j hj h
            · obtain rfl : j = k := by omega
              exact hq
          have hcall := Lib.hid (fun w => l31Before_at (r := xs[k]) (n := r.name) (s := r.sys) hq w)
          clear HD hq
          generalize hxq : xs[k] = q at *
          clear hxq
          go_wp2_with fail
          refine wp_region_quiet_below (by kernel_rfl) (by kernel_rfl) ?_
          repeat (any_goals (first | go_big_quiet_step ((go_at_call 51; exact Calls.regrown_of (hcall.out _)))))
          refine wpQuiet_nil ?_
          rintro w1 ⟨p, hw1⟩
          have S1 := Lib.hid (HS.out.grow (hw1 ▸ below_regrown _ _ _ : Below wr.heap.size wr w1))
          clear hw1 HS b0 b1 k0 k1 k2 k3 hcall
          go_wp2_with fail
          go_roundw
          case rel => exact ⟨k + 1, by omega, by go_num, HD2, S1⟩
          case measure => simp [intOf]; omega
      · obtain rfl : k = xs.length := by omega
        have hP : Hid (posR xs r = xs.length) := posR_eq hk (fun j hj hjk => HD.out j hj hjk) (fun h => absurd h (by omega))
        go_wp2_with fail
        refine wp_region_quiet_below (by kernel_rfl) (by kernel_rfl) ?_
        repeat (any_goals (first | go_big_quiet_step (fail)))
        refine wpQuiet_nil ?_
        rintro w1 ⟨p, hw1⟩
        have S1 := Lib.hid (HS.out.grow (hw1 ▸ below_regrown _ _ _ : Below wr.heap.size wr w1))
        clear hw1 HS b0 b1 HD
        go_wp2_with fail
        go_meet
        exact ⟨xs.length, Nat.le_refl _, rfl, hP, S1⟩
  case rest =>
    obtain ⟨k, hk, rfl, HP, HS⟩ := hcut
    clear S0
    have S1 := HS.out.own_made 30 4
    have sTo := Lib.hid (show Src (wc.alloc (.cells #[] 30)) A k 4 ((xs.take k).flatMap rcEnc) from by
      have := (hsr.out.grow S1.below).to hk
      rwa [flat4_take] at this)
    have ones := Lib.hid (rec_ones (xs.take k))
    replace S1 := Lib.hid S1
    have hkc : k ≤ c := by omega
    clear HS
    go_upto_region 4 with fail
    go_cut [7] (fun v7 wx => ∃ A c, v7 = .slice A k c ∧ Hid (Sp w wx [Own 30 4 (.slice A k c) k ((xs.take k).flatMap rcEnc), Box w.heap.size 30 #[.string (ms r.name), .int .i64 r.sys, .int .i64 r.size, .int .i64 r.extra]]))
    case first =>
      rcases hA.out with rfl | ⟨ab, ao, rfl⟩
      · go_wp2_with (at_builtin; refine wpList_append_src rfl _ _ rfl Tryz.underlying24 hi hz0 hz1 hz2 rfl (by decide) _ 0 _ rfl (S1.out.own (i := 0) rfl) none k c ((xs.take k).flatMap rcEnc) rfl sTo.out ones.out ?c3 ?c4 ?_)
        case c3 => unfold maxLen; omega
        case c4 => omega
        intro vY wY hownY hgY hatY
        have S5 := S1.out.own_push (i := 0) rfl (bb _) hownY hgY (by simpa using hatY)
        (try rw [List.nil_append] at S5)
        (try simp only [Nat.zero_add, List.set_cons_zero] at S5)
        replace S5 := Lib.hid S5
        obtain ⟨aY, cY, rfl⟩ := own_slice hownY
        clear S1 hownY hgY hatY sTo ones
        go_wp2_with fail
        go_meet
        exact ⟨_, _, rfl, S5⟩
      · go_wp2_with (at_builtin; refine wpList_append_src rfl _ _ rfl Tryz.underlying24 hi hz0 hz1 hz2 rfl (by decide) _ 0 _ rfl (S1.out.own (i := 0) rfl) (some ⟨ab, ao, none⟩) k c ((xs.take k).flatMap rcEnc) rfl sTo.out ones.out ?c3 ?c4 ?_)
        case c3 => unfold maxLen; omega
        case c4 => omega
        intro vY wY hownY hgY hatY
        have S5 := S1.out.own_push (i := 0) rfl (bb _) hownY hgY (by simpa using hatY)
        (try rw [List.nil_append] at S5)
        (try simp only [Nat.zero_add, List.set_cons_zero] at S5)
        replace S5 := Lib.hid S5
        obtain ⟨aY, cY, rfl⟩ := own_slice hownY
        clear S1 hownY hgY hatY sTo ones
        go_wp2_with fail
        go_meet
        exact ⟨_, _, rfl, S5⟩
    case rest =>
      obtain ⟨B, cB, rfl, S2⟩ := hcut
      clear S1 sTo ones
      have kB := S2.out.cell (i := 1) rfl (o := 0) rfl
      have hFr := Lib.hid (fun W (h : Below w.heap.size w W) j (hj : j ≤ xs.length) => show Src W (cutA A c j 4) (xs.length - j) 4 ((xs.drop j).flatMap rcEnc) from by
        have := (hsr.out.grow h).cut hA.out hj hx1
        rwa [flat4_drop] at this)
      go_upto_region 5 with fail
      go_cut [54] (fun v54 wx => ∃ q, v54 = .bool q ∧ Hid (HitIs xs r k q) ∧ Hid (Sp w wx [Own 30 4 (.slice B k cB) k ((xs.take k).flatMap rcEnc), Box w.heap.size 30 #[.string (ms r.name), .int .i64 r.sys, .int .i64 r.size, .int .i64 r.extra]]))
      case first =>
        have b0 := S2.out.cell (i := 1) rfl (o := 0) rfl
        have b1 := S2.out.cell (i := 1) rfl (o := 1) rfl
        have c0 := cell_regrown b0
        have c1 := cell_regrown b1
        clear kB
        rcases Nat.lt_or_ge k xs.length with hlt | hge
        · rcases hx3 with ⟨rfl, rfl⟩ | ⟨hxn, b, off, rfl, rfl, hxc⟩
          · exact absurd hlt (by simp)
          obtain ⟨p0, p1, p2, p3⟩ := hxc k hlt
          have hp := S2.out.below.block b p0.lt
          have k0 := (p0.keep hp).1
          have k1 := (p1.keep hp).1
          have j0 := cell_regrown k0
          have j1 := cell_regrown k1
          have hlI : (k : Int) < xs.length := by omega
          clear p0 p1 p2 p3 hp hxc
          cases hs : sameR xs[k] r
          · have hent : Hid (HitIs xs r k false) := .no (entR_no HP.out hlt hs)
            have hs2 : ((xs[k].name == r.name) && decide (xs[k].sys = r.sys)) = false := hs
            clear hs k0 k1
            generalize hxq : xs[k] = q at j0 j1 hs2
            clear hxq
            rcases (Bool.and_eq_false_iff.1 hs2) with h1 | h1
            · clear hs2
              go_wp2_with fail
              refine wp_region_quiet_below (by kernel_rfl) (by kernel_rfl) ?_
              repeat (any_goals (first | go_big_quiet_step (fail)))
              refine wpQuiet_nil ?_
              rintro w5 ⟨p, hw5⟩
              have S5 := Lib.hid (S2.out.grow (hw5 ▸ below_regrown _ _ _ : Below wc.heap.size wc w5))
              clear hw5 b0 b1 c0 c1 S2
              go_wp2_with fail
              go_meet
              exact ⟨false, rfl, hent, S5⟩
            · cases h0 : (q.name == r.name)
              · clear hs2 h1
                go_wp2_with fail
                refine wp_region_quiet_below (by kernel_rfl) (by kernel_rfl) ?_
                repeat (any_goals (first | go_big_quiet_step (fail)))
                refine wpQuiet_nil ?_
                rintro w5 ⟨p, hw5⟩
                have S5 := Lib.hid (S2.out.grow (hw5 ▸ below_regrown _ _ _ : Below wc.heap.size wc w5))
                clear hw5 b0 b1 c0 c1 S2
                go_wp2_with fail
                go_meet
                exact ⟨false, rfl, hent, S5⟩
              · clear hs2
                have h2 : (q.sys == r.sys) = false := by simpa using h1
                go_wp2_with fail
                refine wp_region_quiet_below (by kernel_rfl) (by kernel_rfl) ?_
                repeat (any_goals (first | go_big_quiet_step (fail)))
                refine wpQuiet_nil ?_
                rintro w5 ⟨p, hw5⟩
                have S5 := Lib.hid (S2.out.grow (hw5 ▸ below_regrown _ _ _ : Below wc.heap.size wc w5))
                clear hw5 b0 b1 c0 c1 S2
                go_wp2_with fail
                go_meet
                exact ⟨false, rfl, hent, S5⟩
          · have hent : Hid (HitIs xs r k true) := .yes hlt (entR_yes HP.out hlt hs)
            have hs2 : ((xs[k].name == r.name) && decide (xs[k].sys = r.sys)) = true := hs
            rw [Bool.and_eq_true] at hs2
            obtain ⟨h1, h2⟩ := hs2
            have h3 : (xs[k].sys == r.sys) = true := by simpa using h2
            clear hs k0 k1 h2
            generalize hxq : xs[k] = q at j0 j1 h1 h3
            clear hxq
            go_wp2_with fail
            refine wp_region_quiet_below (by kernel_rfl) (by kernel_rfl) ?_
            repeat (any_goals (first | go_big_quiet_step (fail)))
            refine wpQuiet_nil ?_
            rintro w5 ⟨p, hw5⟩
            have S5 := Lib.hid (S2.out.grow (hw5 ▸ below_regrown _ _ _ : Below wc.heap.size wc w5))
            clear hw5 b0 b1 c0 c1 S2
            go_wp2_with fail
            go_meet
            exact ⟨true, rfl, hent, S5⟩
        · obtain rfl : k = xs.length := by omega
          have hent : Hid (HitIs xs r xs.length false) := .no (entR_end HP.out rfl)
          go_wp2_with fail
          refine wp_region_quiet_below (by kernel_rfl) (by kernel_rfl) ?_
          repeat (any_goals (first | go_big_quiet_step (fail)))
          refine wpQuiet_nil ?_
          rintro w5 ⟨p, hw5⟩
          have S5 := Lib.hid (S2.out.grow (hw5 ▸ below_regrown _ _ _ : Below wc.heap.size wc w5))
          clear hw5 b0 b1 c0 c1 S2
          go_wp2_with fail
          go_meet
          exact ⟨false, rfl, hent, S5⟩
      case rest =>
        obtain ⟨q, rfl, HQ, S3⟩ := hcut
        clear S2 kB
        go_upto_if 54 with fail
        go_cut [7, 8] (fun v7 _ wx => Hid (EntRow w r (entR xs r) v7 wx))
        case first =>
          cases q
          · have hent := Lib.hid (HQ.out.1 rfl)
            have hkl : k ≤ xs.length := hk
            have S5 := S3.out
            clear S3 HQ
            go_wp2_with fail
            have d0 := S5.cell (i := 1) rfl (o := 0) rfl
            have d1 := S5.cell (i := 1) rfl (o := 1) rfl
            have d2 := S5.cell (i := 1) rfl (o := 2) rfl
            have d3 := S5.cell (i := 1) rfl (o := 3) rfl
            have hbx := (S5.box (i := 1) rfl).2.1
            refine wp_region_tail_lit (S := (fun w' => w'.cell? ⟨w.heap.size, 0, none⟩ = some (.string (ms r.name)) ∧ w'.cell? ⟨w.heap.size, 1, none⟩ = some (.int .i64 r.sys) ∧ w'.cell? ⟨w.heap.size, 2, none⟩ = some (.int .i64 r.size) ∧ w'.cell? ⟨w.heap.size, 3, none⟩ = some (.int .i64 r.extra))) 7 [false, false, false, false, false, false, false, false, false] (by kernel_rfl) (by kernel_rfl) (by kernel_rfl) ?_ ?_
            · exact ⟨d0, d1, d2, d3⟩
            intro hS
            (refine walkT_take (i := 0) (v := ?_) rfl (by kernel_rfl) (by decide) (by kernel_rfl) (by kernel_rfl) (fun _ _ _ h => h) (Or.inl ⟨by rfl, ?_⟩) (by assumption) ?_; rotate_left; (focus (intro w hSw; (try dsimp only at hSw); go_simp; (try with_reducible rfl); done)); (try simp only [put_rules]))
            (refine walkT_take (i := 1) (v := ?_) rfl (by kernel_rfl) (by decide) (by kernel_rfl) (by kernel_rfl) (fun _ _ _ h => h) (Or.inl ⟨by rfl, ?_⟩) (by assumption) ?_; rotate_left; (focus (intro w hSw; (try dsimp only at hSw); go_simp; (try with_reducible rfl); done)); (try simp only [put_rules]))
            (refine walkT_take (i := 4) (v := ?_) rfl (by kernel_rfl) (by decide) (by kernel_rfl) (by kernel_rfl) (fun _ _ _ h => h) (Or.inl ⟨by rfl, ?_⟩) (by assumption) ?_; rotate_left; (focus (intro w hSw; (try dsimp only at hSw); go_simp; (try with_reducible rfl); done)); (try simp only [put_rules]))
            (refine walkT_take (i := 5) (v := ?_) rfl (by kernel_rfl) (by decide) (by kernel_rfl) (by kernel_rfl) (fun _ _ _ h => h) (Or.inl ⟨by rfl, ?_⟩) (by assumption) ?_; rotate_left; (focus (intro w hSw; (try dsimp only at hSw); go_simp; (try with_reducible rfl); done)); (try simp only [put_rules]))
            (refine walkT_take (i := 6) (v := .slice (cutA _ c (k) 4) (xs.length - (k)) (c - (k))) rfl (by kernel_rfl) (by decide) (by kernel_rfl) (by kernel_rfl) (fun _ _ _ h => h) (Or.inl ⟨by rfl, fun _ _ => exec_slice_from rfl rfl rfl Tryz.underlying24 hi hz1 (by omega)⟩) (by assumption) ?_; (try simp only [put_rules]))
            (refine walkT_ready (rs := [2]) (by kernel_rfl) (by simp) (by decide) ?_; refine AllT.cons rfl (fun K hK => ?_) AllT.nil)
            go_simp
            have S6 := S5.drew.alloc_box #[.string (ms r.name), .int .i64 r.sys, .int .i64 r.size, .int .i64 r.extra] 30
            (try simp only [World.size_alloc, drew_size] at S6)
            have g0 := S6.cell (i := 2) rfl (o := 0) rfl
            have g1 := S6.cell (i := 2) rfl (o := 1) rfl
            have g2 := S6.cell (i := 2) rfl (o := 2) rfl
            have g3 := S6.cell (i := 2) rfl (o := 3) rfl
            have y0 := S6.cell (i := 0) rfl (o := 0) rfl
            have y1 := S6.cell (i := 0) rfl (o := 1) rfl
            have y2 := S6.cell (i := 0) rfl (o := 2) rfl
            have y3 := S6.cell (i := 0) rfl (o := 3) rfl
            have hsx := Lib.hid (src_rec y0 y1 y2 y3)
            replace S6 := Lib.hid S6
            clear S5 d0 d1 d2 d3 y0 y1 y2 y3 hbx
            refine hK.out _ _ ⟨g0, g1, g2, g3⟩ (fun _ => ?_)
            clear hK hS
            (try simp only [put_rules])
            (refine walkT_ready (rs := [3]) (by kernel_rfl) (by simp) (by decide) ?_; refine AllT.cons rfl (fun K hK => ?_) AllT.nil)
            (refine step_append_src rfl _ _ rfl Tryz.underlying24 hi hz0 hz1 hz2 rfl (by decide) _ k _ rfl (S6.out.own (i := 1) rfl) _ 1 1 (rcEnc r) rfl hsx.out (rec_one r) (by unfold maxLen; omega) (by omega) ?_; intro vH wH hownH hgH hatH)
            have S7 := S6.out.own_push (i := 1) rfl (bb _) hownH hgH hatH
            have e0 := S7.cell (i := 2) rfl (o := 0) rfl
            have e1 := S7.cell (i := 2) rfl (o := 1) rfl
            have e2 := S7.cell (i := 2) rfl (o := 2) rfl
            have e3 := S7.cell (i := 2) rfl (o := 3) rfl
            replace S7 := Lib.hid S7
            clear S6 g0 g1 g2 g3 hsx hgH hatH
            obtain ⟨aH, cH, rfl⟩ := owns_form hownH
            clear hownH
            refine hK.out _ _ ⟨e0, e1, e2, e3⟩ (fun _ => ?_)
            clear hK
            (try simp only [put_rules])
            (refine walkT_done (by kernel_rfl) ?_)
            simp only [List.drop_succ_cons, List.drop_zero]
            have hfr := Lib.hid (hFr.out _ S7.out.below (k) (by omega))
            (refine wpList_append_src rfl _ _ rfl Tryz.underlying24 hi hz0 hz1 hz2 rfl (by decide) _ (k + 1) _ rfl (S7.out.own (i := 1) rfl) _ (xs.length - (k)) _ ((xs.drop (k)).flatMap rcEnc) rfl hfr.out (rec_ones _) (by unfold maxLen; omega) (by omega) ?_; intro v5 w6 hown5 hg5 hat5)
            have S9 := (S7.out.own_push (i := 1) rfl (bb _) hown5 hg5 hat5).pick [1] rfl
            obtain ⟨a5, c5, rfl⟩ := owns_form hown5
            have hM := ent_row (r := r) (w := w) (ys := entR xs r) (W := w6) (by rw [hent.out]; simp [rcEnc]) (by rw [hent.out]; simp; omega) S9
            clear S7 S9 hown5 hg5 hat5 hfr e0 e1 e2 e3
            go_wp2_with fail
            go_meet
            exact hM
          · obtain ⟨hlt, hent⟩ := HQ.out.2 rfl
            replace hent := Lib.hid hent
            rcases hx3 with ⟨rfl, rfl⟩ | ⟨hxn, b, off, rfl, rfl, hxc⟩
            · exact absurd hlt (by simp)
            obtain ⟨p0, p1, p2, p3⟩ := hxc k hlt
            have hp := S3.out.below.block b p0.lt
            have k0 := (p0.keep hp).1
            have k1 := (p1.keep hp).1
            have k2 := (p2.keep hp).1
            have k3 := (p3.keep hp).1
            have hlI : (k : Int) < xs.length := by omega
            clear p0 p1 p2 p3 hp hxc HQ
            have hok : rcOk xs[k] := rc_good hg hlt
            have hdr := Lib.hid (show xs.set k (betterR xs[k] r) = xs.take k ++ betterR xs[k] r :: xs.drop (k + 1) from by rw [List.set_eq_take_append_cons_drop, if_pos hlt])
            generalize hxq : xs[k] = q at *
            clear hxq
            have S4 := S3.out.alloc_box #[.string (ms q.name), .int .i64 q.sys, .int .i64 q.size, .int .i64 q.extra] 30
            replace S4 := Lib.hid S4
            go_upto_region 7 with fail
            generalize hob : wc.heap.size = ob at *
            clear S3 k0 k1 k2 k3
            go_cut [77] (fun v77 wx => v77 = .bool (overR q r) ∧ Hid (Sp w wx [Box ob 30 #[.string (ms q.name), .int .i64 q.sys, .int .i64 q.size, .int .i64 q.extra], Own 30 4 (.slice B k cB) k ((xs.take k).flatMap rcEnc), Box w.heap.size 30 #[.string (ms r.name), .int .i64 r.sys, .int .i64 r.size, .int .i64 r.extra]]))
            case first =>
              have b2 := S4.out.cell (i := 2) rfl (o := 2) rfl
              have b3 := S4.out.cell (i := 2) rfl (o := 3) rfl
              have o2 := S4.out.cell (i := 0) rfl (o := 2) rfl
              have o3 := S4.out.cell (i := 0) rfl (o := 3) rfl
              have ov : ∀ A B C : Bool, decide (r.size < q.size) = A → decide (q.size = r.size) = B → decide (r.extra < q.extra) = C → overR q r = (A || (B && C)) := fun A B C h1 h2 h3 => by unfold overR; rw [h1, h2, h3]
              replace ov := Lib.hid ov
              clear hFr hent hdr
              generalize World.alloc wc _ = W4 at *
              generalize hoo : overR q r = oo at *
              by_cases hA : r.size < q.size
              · have hAb : decide (r.size < q.size) = true := decide_eq_true hA
                obtain rfl : oo = true := ov.out true _ _ hAb rfl rfl
                clear ov hoo
                go_wp2_with fail
                go_meet
                exact ⟨rfl, S4⟩
              have hAb : decide (r.size < q.size) = false := decide_eq_false hA
              by_cases hB : q.size = r.size
              · by_cases hC : r.extra < q.extra
                · have hCb : decide (r.extra < q.extra) = true := decide_eq_true hC
                  obtain rfl : oo = true := ov.out false true true hAb (decide_eq_true hB) hCb
                  clear ov hoo
                  go_wp2_with fail
                  go_meet
                  exact ⟨rfl, S4⟩
                · have hCb : decide (r.extra < q.extra) = false := decide_eq_false hC
                  obtain rfl : oo = false := ov.out false true false hAb (decide_eq_true hB) hCb
                  clear ov hoo
                  go_wp2_with fail
                  go_meet
                  exact ⟨rfl, S4⟩
              · have hBb : (q.size == r.size) = false := by simpa using hB
                obtain rfl : oo = false := ov.out false false _ hAb (decide_eq_false hB) rfl
                clear ov hoo
                go_wp2_with fail
                go_meet
                exact ⟨rfl, S4⟩
            case rest =>
            obtain ⟨rfl, S4⟩ := hcut
            go_upto_if 77 with fail
            go_cut [] (fun wx => Hid (Sp w wx [Own 30 4 (.slice B k cB) k ((xs.take k).flatMap rcEnc), Box ob 30 #[.string (ms (betterR q r).name), .int .i64 (betterR q r).sys, .int .i64 (betterR q r).size, .int .i64 (betterR q r).extra]]))
            case first =>
              cases ho : overR q r
              · have hbt : betterR q r = q := by unfold betterR; rw [ho]; rfl
                have S5 := Lib.hid (S4.out.pick [1, 0] rfl)
                clear S4
                go_wp2_with fail
                go_meet
                rw [hbt]
                exact S5
              · have hbt : betterR q r = r := by unfold betterR; rw [ho]; rfl
                have b0 := S4.out.cell (i := 2) rfl (o := 0) rfl
                have b1 := S4.out.cell (i := 2) rfl (o := 1) rfl
                have b2 := S4.out.cell (i := 2) rfl (o := 2) rfl
                have b3 := S4.out.cell (i := 2) rfl (o := 3) rfl
                have o0 := S4.out.cell (i := 0) rfl (o := 0) rfl
                have o1 := S4.out.cell (i := 0) rfl (o := 1) rfl
                have o2 := S4.out.cell (i := 0) rfl (o := 2) rfl
                have o3 := S4.out.cell (i := 0) rfl (o := 3) rfl
                have f0 := S4.out.frozen (i := 0) rfl 0
                have f1 := S4.out.frozen (i := 0) rfl 1
                have f2 := S4.out.frozen (i := 0) rfl 2
                have f3 := S4.out.frozen (i := 0) rfl 3
                have S5 := Lib.hid ((((((S4.out.store (i := 0) rfl 0 (.string (ms r.name))).store (i := 0) rfl 1 (.int .i64 r.sys)).store (i := 0) rfl 2 (.int .i64 r.size)).store (i := 0) rfl 3 (.int .i64 r.extra))).pick [1, 0] rfl)
                clear S4
                go_wp2_with fail
                go_meet
                rw [hbt]
                exact S5
            case rest =>
              have S5 := hcut.out
              clear hcut S4
              have hent : Hid (entR xs r = xs.take k ++ betterR q r :: xs.drop (k + 1)) := hent.out.trans hdr.out
              clear hdr
              generalize betterR q r = z at *
              have hkw : IntKind.i64.wrap ((k : Int) + 1) = ((k + 1 : Nat) : Int) := by rw [IntWalk.i64_in _ (by omega)]; omega
              go_wp2_with fail
              have d0 := S5.cell (i := 1) rfl (o := 0) rfl
              have d1 := S5.cell (i := 1) rfl (o := 1) rfl
              have d2 := S5.cell (i := 1) rfl (o := 2) rfl
              have d3 := S5.cell (i := 1) rfl (o := 3) rfl
              have hbx := (S5.box (i := 1) rfl).2.1
              refine wp_region_tail_lit (S := (fun w' => w'.cell? ⟨ob, 0, none⟩ = some (.string (ms z.name)) ∧ w'.cell? ⟨ob, 1, none⟩ = some (.int .i64 z.sys) ∧ w'.cell? ⟨ob, 2, none⟩ = some (.int .i64 z.size) ∧ w'.cell? ⟨ob, 3, none⟩ = some (.int .i64 z.extra))) 8 [false, false, false, false, false, false, false, false, false, false] (by kernel_rfl) (by kernel_rfl) (by kernel_rfl) ?_ ?_
              · exact ⟨d0, d1, d2, d3⟩
              intro hS
              (refine walkT_take (i := 0) (v := ?_) rfl (by kernel_rfl) (by decide) (by kernel_rfl) (by kernel_rfl) (fun _ _ _ h => h) (Or.inl ⟨by rfl, ?_⟩) (by assumption) ?_; rotate_left; (focus (intro w hSw; (try dsimp only at hSw); go_simp; (try with_reducible rfl); done)); (try simp only [put_rules]))
              (refine walkT_take (i := 1) (v := ?_) rfl (by kernel_rfl) (by decide) (by kernel_rfl) (by kernel_rfl) (fun _ _ _ h => h) (Or.inl ⟨by rfl, ?_⟩) (by assumption) ?_; rotate_left; (focus (intro w hSw; (try dsimp only at hSw); go_simp; (try with_reducible rfl); done)); (try simp only [put_rules]))
              (refine walkT_take (i := 4) (v := ?_) rfl (by kernel_rfl) (by decide) (by kernel_rfl) (by kernel_rfl) (fun _ _ _ h => h) (Or.inl ⟨by rfl, ?_⟩) (by assumption) ?_; rotate_left; (focus (intro w hSw; (try dsimp only at hSw); go_simp; (try with_reducible rfl); done)); (try simp only [put_rules]))
              (refine walkT_take (i := 5) (v := ?_) rfl (by kernel_rfl) (by decide) (by kernel_rfl) (by kernel_rfl) (fun _ _ _ h => h) (Or.inl ⟨by rfl, ?_⟩) (by assumption) ?_; rotate_left; (focus (intro w hSw; (try dsimp only at hSw); go_simp; (try with_reducible rfl); done)); (try simp only [put_rules]))
              (refine walkT_take (i := 6) (v := ?_) rfl (by kernel_rfl) (by decide) (by kernel_rfl) (by kernel_rfl) (fun _ _ _ h => h) (Or.inl ⟨by rfl, ?_⟩) (by assumption) ?_; rotate_left; (focus (intro w hSw; (try dsimp only at hSw); go_simp; (try with_reducible rfl); done)); (try simp only [put_rules]))
              (refine walkT_take (i := 7) (v := .slice (cutA _ c (k + 1) 4) (xs.length - (k + 1)) (c - (k + 1))) rfl (by kernel_rfl) (by decide) (by kernel_rfl) (by kernel_rfl) (fun _ _ _ h => h) (Or.inl ⟨by rfl, fun _ _ => exec_slice_from rfl rfl (by simp [Act.eval, Act.put]) Tryz.underlying24 hi hz1 (by omega)⟩) (by assumption) ?_; (try simp only [put_rules]))
              (refine walkT_ready (rs := [2]) (by kernel_rfl) (by simp) (by decide) ?_; refine AllT.cons rfl (fun K hK => ?_) AllT.nil)
              go_simp
              have S6 := S5.drew.alloc_box #[.string (ms z.name), .int .i64 z.sys, .int .i64 z.size, .int .i64 z.extra] 30
              (try simp only [World.size_alloc, drew_size] at S6)
              have g0 := S6.cell (i := 2) rfl (o := 0) rfl
              have g1 := S6.cell (i := 2) rfl (o := 1) rfl
              have g2 := S6.cell (i := 2) rfl (o := 2) rfl
              have g3 := S6.cell (i := 2) rfl (o := 3) rfl
              have y0 := S6.cell (i := 0) rfl (o := 0) rfl
              have y1 := S6.cell (i := 0) rfl (o := 1) rfl
              have y2 := S6.cell (i := 0) rfl (o := 2) rfl
              have y3 := S6.cell (i := 0) rfl (o := 3) rfl
              have hsx := Lib.hid (src_rec y0 y1 y2 y3)
              replace S6 := Lib.hid S6
              clear S5 d0 d1 d2 d3 y0 y1 y2 y3 hbx
              refine hK.out _ _ ⟨g0, g1, g2, g3⟩ (fun _ => ?_)
              clear hK hS
              (try simp only [put_rules])
              (refine walkT_ready (rs := [3]) (by kernel_rfl) (by simp) (by decide) ?_; refine AllT.cons rfl (fun K hK => ?_) AllT.nil)
              (refine step_append_src rfl _ _ rfl Tryz.underlying24 hi hz0 hz1 hz2 rfl (by decide) _ k _ rfl (S6.out.own (i := 1) rfl) _ 1 1 (rcEnc z) rfl hsx.out (rec_one z) (by unfold maxLen; omega) (by omega) ?_; intro vH wH hownH hgH hatH)
              have S7 := S6.out.own_push (i := 1) rfl (bb _) hownH hgH hatH
              have e0 := S7.cell (i := 2) rfl (o := 0) rfl
              have e1 := S7.cell (i := 2) rfl (o := 1) rfl
              have e2 := S7.cell (i := 2) rfl (o := 2) rfl
              have e3 := S7.cell (i := 2) rfl (o := 3) rfl
              replace S7 := Lib.hid S7
              clear S6 g0 g1 g2 g3 hsx hgH hatH
              obtain ⟨aH, cH, rfl⟩ := owns_form hownH
              clear hownH
              refine hK.out _ _ ⟨e0, e1, e2, e3⟩ (fun _ => ?_)
              clear hK
              (try simp only [put_rules])
              (refine walkT_done (by kernel_rfl) ?_)
              simp only [List.drop_succ_cons, List.drop_zero]
              have hfr := Lib.hid (hFr.out _ S7.out.below (k + 1) (by omega))
              (refine wpList_append_src rfl _ _ rfl Tryz.underlying24 hi hz0 hz1 hz2 rfl (by decide) _ (k + 1) _ rfl (S7.out.own (i := 1) rfl) _ (xs.length - (k + 1)) _ ((xs.drop (k + 1)).flatMap rcEnc) rfl hfr.out (rec_ones _) (by unfold maxLen; omega) (by omega) ?_; intro v5 w6 hown5 hg5 hat5)
              have S9 := (S7.out.own_push (i := 1) rfl (bb _) hown5 hg5 hat5).pick [1] rfl
              obtain ⟨a5, c5, rfl⟩ := owns_form hown5
              have hM := ent_row (r := r) (w := w) (ys := entR xs r) (W := w6) (by rw [hent.out]; simp [rcEnc]) (by rw [hent.out]; simp; omega) S9
              clear S7 S9 hown5 hg5 hat5 hfr e0 e1 e2 e3
              go_wp2_with fail
              go_meet
              exact hM
        case rest =>
          obtain ⟨A7, c7, rfl, S7⟩ := hcut.out
          clear hcut S3 hFr hsr hx3
          obtain ⟨F7, hr7, -, -⟩ := S7.recs_row (i := 0) rfl hgn.out
          replace S7 := Lib.hid S7
          replace hr7 := Lib.hid (row_read hr7)
          cases hy : bookB (entR xs r)
          · have hO := Lib.hid (entO_no hy)
            generalize entR xs r = es at *
            generalize entO xs r = oo at *
            go_wp2_with fail
            refine (goodR_at hr7.out hy).mono ?_
            rintro e w8 ⟨rfl, hb8⟩
            have S8 := Lib.hid ((S7.out.grow hb8).own_made 30 4)
            clear S7 hr7 hb8
            go_wp2_with fail
            go_ret2
            exact mrg_no hO.out (S8.out.pick [0] rfl)
          · have hO := Lib.hid (entO_yes hy)
            generalize entR xs r = es at *
            generalize entO xs r = oo at *
            go_wp2_with fail
            refine (goodR_at hr7.out hy).mono ?_
            rintro e w8 ⟨rfl, hb8⟩
            have S8 := Lib.hid (S7.out.grow hb8)
            clear S7 hr7 hb8
            go_wp2_with fail
            go_ret2
            exact mrg_yes hO.out S8.out
end Go.Proofs.YtpiimlmfcdjbbaaGreatDoor
