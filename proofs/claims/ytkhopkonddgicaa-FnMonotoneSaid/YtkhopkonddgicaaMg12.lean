/- Lemmas and contracts for a law, put together out of several texts: GuF GuL. -/
import Derived.Test.YtkhopkonddgicaaMg11
import Derived.Test.YtkhopkonddgicaaMg10
import Derived.Deep.RegionWith
/- Contract: pushing negations, in the reference. Printed by gen_l6push.py. -/
namespace Go.Proofs.Ytkhopkonddgicaa
open Go.RowKit

theorem natI_snoc (l : List Nat) (x : Nat) : (natI (l ++ [x])).map (Value.int .i64) = (natI l).map (.int .i64) ++ [.int .i64 (x : Nat)] := by simp [natI]
/-- What lies in memory while negations are pushed. -/
abbrev PrSp (w : World) (q : Nat) (s : PSt) (ov yv nv : Value) (W : World) : Prop :=
  Sp w W [Own 41 3 ov s.out.length (s.out.flatMap gtEnc), Own 3 1 yv q ((natI s.same).map (.int .i64)), Own 3 1 nv q ((natI s.other).map (.int .i64))]

set_option maxRecDepth 100000 in
set_option maxHeartbeats 16000000 in
theorem specPush_any (vars : Int) (A : Option Addr) (c : Nat) (gs : List Gt) (w : World) (hx : GtAt w A gs) (hcb : circB vars gs = true) :
    Calls Try.prog 23 #[.int .i64 vars, .slice A gs.length c] w (GOut w (decide ((pushesG gs).out.length ≤ 200)) (pushR gs)) := by
  obtain ⟨-, hv, hp, hl, hg⟩ := circ_vars hcb
  obtain ⟨i0, hi0, hz0, hz1, hz2⟩ := info_parts infoGt
  obtain ⟨i1, hj0, hy0, hy1, hy2⟩ := info_parts infoInt
  have hc := l6Good_any vars A c gs w hx (by omega)
  rw [hcb] at hc
  replace hc := Lib.hid hc
  have hX := Lib.hid hx
  replace hg := Lib.hid hg
  clear hx
  go_enter Try.func23, Try.ntmps23
  go_wp2_with fail
  refine hc.out.mono ?_
  rintro e w1 ⟨rfl, hb1⟩
  have S1 := (((Sp.of_below hb1).own_made 41 3).own_made 3 1).own_made 3 1
  simp only [World.size_alloc] at S1
  have S2 := Lib.hid (S1.pick [2, 1, 0] rfl)
  clear S1 hc hb1
  go_wp2_with fail
  go_loopw [9, 6, 7, 8] (fun i o y n wr => ∃ (q : Nat) (ov yv nv : Value), q ≤ gs.length ∧ i = .int .i64 (q : Int) ∧ o = ov ∧ y = yv ∧ n = nv ∧ Hid (PrSp w q (pushesG (gs.take q)) ov yv nv wr)) (fun i _ _ _ _ => gs.length - (intOf i).toNat)
  case atStart => exact ⟨0, _, _, _, Nat.zero_le _, rfl, rfl, rfl, rfl, S2⟩
  case round =>
    obtain ⟨q, ov, yv, nv, hq, rfl, rfl, rfl, rfl, hS⟩ := hrel
    clear S2
    by_cases hlt : q < gs.length
    · have hqi : (q : Int) < gs.length := by omega
      have hP := pinv (gs.take q) (hg.out.take q)
      have hst := pushes_take hlt
      obtain ⟨bg, og, e, m0, m1, m2⟩ := (hX.out.grow hS.out.below).at_ q hlt
      cases e
      have hgq := hg.out q hlt
      have hlt2 := ins_lt hgq
      have hgi := gtB_iff.1 hgq
      have hl2 : (gs.take q).length = q := by rw [List.length_take]; omega
      generalize pushesG (gs.take q) = s at hS hP hst
      obtain ⟨M, sm, ot⟩ := s
      generalize gs[q] = g at m0 m1 m2 hst hgq hlt2 hgi
      obtain ⟨gk, ga, gb⟩ := g
      have hn1 := hP.n1
      have hn2 := hP.n2
      have hlen := hP.len
      have hb1 := hP.lt1
      have hb2 := hP.lt2
      rw [hl2] at hn1 hn2 hlen hb1 hb2
      dsimp only at hn1 hn2 hlen hb1 hb2 m0 m1 m2 hgi
      have hs1 : Hid (∀ x ∈ sm, x ≤ 1000000) := fun x hx => by
        obtain ⟨i, hi, rfl⟩ := List.getElem_of_mem hx
        have := hb1 i (by omega)
        rw [List.getD_eq_getElem?_getD, List.getElem?_eq_getElem hi] at this
        dsimp only [Option.getD_some] at this
        omega
      have hs2 : Hid (∀ x ∈ ot, x ≤ 1000000) := fun x hx => by
        obtain ⟨i, hi, rfl⟩ := List.getElem_of_mem hx
        have := hb2 i (by omega)
        rw [List.getD_eq_getElem?_getD, List.getElem?_eq_getElem hi] at this
        dsimp only [Option.getD_some] at this
        omega
      unfold PrSp at hS
      dsimp only at hS
      obtain ⟨aO, cO, rfl⟩ := own_slice (hS.out.own (i := 0) rfl)
      obtain ⟨aY, cY, rfl⟩ := own_slice (hS.out.own (i := 1) rfl)
      obtain ⟨aN', cN', rfl⟩ := own_slice (hS.out.own (i := 2) rfl)
      have S3 := Lib.hid (hS.out.alloc_box #[.int .i64 gk, .int .i64 ga, .int .i64 gb] 41)
      have d0 := S3.out.cell (i := 0) rfl (o := 0) rfl
      have d1 := S3.out.cell (i := 0) rfl (o := 1) rfl
      have d2 := S3.out.cell (i := 0) rfl (o := 2) rfl
      replace hgi := Lib.hid hgi
      replace hst := Lib.hid hst
      clear hP hS hgq
      by_cases h4 : gk = 4
      · subst h4
        obtain ⟨a, rfl⟩ : ∃ a : Nat, ga = a := ⟨ga.toNat, by have := hgi.out; omega⟩
        have haq : a < q := by have := hgi.out; omega
        have hai : (a : Int) < q := by omega
        rw [pushG_4, Int.toNat_natCast] at hst
        dsimp only at hst
        have hI2 := S3.out.intsN (i := 3) rfl hn2 hs2.out
        obtain ⟨bn, on, e, t0⟩ := hI2.at_ a (by rw [natI_len]; omega)
        cases e
        have hv2 : (natI ot)[a]'(by rw [natI_len]; omega) = ((ot.getD a 0 : Nat) : Int) := by simp [natI, List.getD_eq_getElem?_getD, List.getElem?_eq_getElem (show a < ot.length by omega)]
        rw [hv2] at t0
        have hxs : Hid (ot.getD a 0 ≤ 1000000) := by have := hb2 a haq; unfold Hid; omega
        generalize ot.getD a 0 = x at t0 hst hxs
        clear hI2 hv2
        have hS := S3
        clear S3
        have S3 := hS.out.alloc_box #[.int .i64 (x : Nat)] 3
        (try simp only [World.size_alloc, World.size_setCell] at S3)
        have kB := S3.cell (i := 0) rfl (o := 0) rfl
        replace S3 := Lib.hid S3
        clear hS
        go_wp2_with (at_builtin; refine wpList_append_src rfl _ _ rfl Try.underlying45 hj0 hy0 hy1 hy2 rfl (by decide) _ q _ rfl (S3.out.own (i := 3) rfl) _ 1 1 [.int .i64 (x : Nat)] rfl (Src.one kB) (by simp [Value.oneCell']) ?c3 ?c4 ?_)
        case c3 => unfold maxLen; omega
        case c4 => omega
        intro vE wE hownE hgE hatE
        have S4 := (S3.out.own_push (i := 3) rfl (bb _) hownE hgE (by simpa using hatE)).tail
        simp only [List.set_cons_zero, List.set_cons_succ] at S4
        obtain ⟨aN, cN, rfl⟩ := own_slice hownE
        have hS := Lib.hid S4
        clear S3 S4 kB hownE hgE hatE
        have hsm2 : Hid (∀ y ∈ sm ++ [x], y ≤ 1000000) := fun y hy => by
          rcases List.mem_append.1 hy with h | h
          · exact hs1.out y h
          · rw [List.mem_singleton] at h; subst h; exact hxs.out
        rw [← natI_snoc] at hS
        have hI1 := hS.out.intsN (i := 2) rfl (l := sm ++ [x]) (by rw [List.length_append, hn1]; rfl) hsm2.out
        obtain ⟨by', oy, e, t3⟩ := hI1.at_ a (by rw [natI_len, List.length_append]; omega)
        cases e
        have hv3 : (natI (sm ++ [x]))[a]'(by rw [natI_len, List.length_append]; omega) = ((sm.getD a 0 : Nat) : Int) := by
          have h1 : a < sm.length := by omega
          rw [List.getD_eq_getElem?_getD, List.getElem?_eq_getElem h1]
          simp only [natI, List.getElem_map, Option.getD_some]
          rw [List.getElem_append_left h1]
        rw [hv3] at t3
        generalize sm.getD a 0 = y at t3 hst
        have e1 := hS.out.cell (i := 0) rfl (o := 1) rfl
        have hai1 : (a : Int) < (q : Int) + 1 := by omega
        clear hI1 hv3 d0 d1 d2 t0
        have S3 := hS.out.alloc_box #[.int .i64 (y : Nat)] 3
        (try simp only [World.size_alloc, World.size_setCell] at S3)
        have kB := S3.cell (i := 0) rfl (o := 0) rfl
        replace S3 := Lib.hid S3
        clear hS
        go_wp2_with (at_builtin; refine wpList_append_src rfl _ _ rfl Try.underlying45 hj0 hy0 hy1 hy2 rfl (by decide) _ q _ rfl (S3.out.own (i := 4) rfl) _ 1 1 [.int .i64 (y : Nat)] rfl (Src.one kB) (by simp [Value.oneCell']) ?c3 ?c4 ?_)
        case c3 => unfold maxLen; omega
        case c4 => omega
        intro vE wE hownE hgE hatE
        have S4 := (S3.out.own_push (i := 4) rfl (bb _) hownE hgE (by simpa using hatE)).tail
        simp only [List.set_cons_zero, List.set_cons_succ] at S4
        obtain ⟨aN, cN, rfl⟩ := own_slice hownE
        have hS := Lib.hid S4
        clear S3 S4 kB hownE hgE hatE
        clear e1 t3
        rw [← natI_snoc] at hS
        go_wp2_with fail
        go_roundw
        case rel =>
          refine ⟨q + 1, _, _, _, by omega, by first | rfl | simp, rfl, rfl, rfl, ?_⟩
          unfold Hid PrSp
          rw [hst.out]
          exact hS.out.pick [1, 1, 1] rfl
        case measure => simp [intOf]; omega
      have hop := Lib.hid (fun W => l6Opposite_any gk W)
      have hst1 : Hid (gk = 1 → pushG ⟨M, sm, ot⟩ ⟨gk, ga, gb⟩ = ⟨M ++ [⟨gk, ga, gb⟩] ++ [⟨4, (M.length : Nat), 0⟩], sm ++ [M.length], ot ++ [M.length + 1]⟩) := fun e => by subst e; rfl
      have hst2 : Hid (gk ≠ 1 → pushG ⟨M, sm, ot⟩ ⟨gk, ga, gb⟩ = ⟨M ++ [mvG (fun k => sm.getD k 0) ⟨gk, ga, gb⟩] ++ [mvG (fun k => ot.getD k 0) ⟨dualK gk, ga, gb⟩], sm ++ [M.length], ot ++ [M.length + 1]⟩) := fun e => pushG_o _ e h4
      have hdd : Hid ((gk = 5 ∨ gk = 6) → (dualK gk = 5 ∨ dualK gk = 6)) := fun e => by rcases e with e | e <;> subst e <;> simp [dualK]
      have hdn : Hid (¬ (gk = 5 ∨ gk = 6) → ¬ (dualK gk = 4) ∧ ¬ (dualK gk = 5 ∨ dualK gk = 6)) := fun e => by
        unfold dualK
        by_cases h2 : gk = 2
        · simp [h2]
        by_cases h3 : gk = 3
        · simp [h3]
        · have h5 : gk ≠ 5 := fun h => e (.inl h)
          have h6 : gk ≠ 6 := fun h => e (.inr h)
          simp [h2, h3, h5, h6, h4]
      obtain ⟨dk, hdk⟩ : ∃ dk, dualK gk = dk := ⟨_, rfl⟩
      rw [hdk] at hop hst2 hdd hdn
      have SA := S3.out
      clear S3
      go_upto_region 11 with fail
      go_cut [11, 12] (fun s11 s12 wx => ∃ b1 b2 : Nat, s11 = .pointer (some ⟨b1, 0, none⟩) ∧ s12 = .pointer (some ⟨b2, 0, none⟩) ∧ Hid (Sp w wx [Box b1 41 #[.int .i64 gk, .int .i64 ga, .int .i64 gb], Box b2 41 #[.int .i64 dk, .int .i64 0, .int .i64 0], Box wr.heap.size 41 #[.int .i64 gk, .int .i64 ga, .int .i64 gb], Own 41 3 (.slice aO M.length cO) M.length (M.flatMap gtEnc), Own 3 1 (.slice aY q cY) q ((natI sm).map (.int .i64)), Own 3 1 (.slice aN' q cN') q ((natI ot).map (.int .i64))]))
      case first =>
        have S3 := Lib.hid SA
        go_wp2_with fail
        refine wp_region_held_lit (S := (fun w' => w'.cell? ⟨wr.heap.size, 0, none⟩ = some (.int .i64 gk) ∧ w'.cell? ⟨wr.heap.size, 1, none⟩ = some (.int .i64 ga) ∧ w'.cell? ⟨wr.heap.size, 2, none⟩ = some (.int .i64 gb))) 9 [false, false, false, false, false, false, false, false, false] (by kernel_rfl) (by kernel_rfl) (by kernel_rfl) ?_ ?_
        · exact ⟨d0, d1, d2⟩
        intro hSc
        (refine wpAnyH_take (i := 0) (v := ?_) rfl (by kernel_rfl) (by kernel_rfl) (by kernel_rfl) (fun _ _ _ h => h) (Or.inl ⟨by rfl, ?_⟩) (by assumption) ?_; rotate_left; (focus (intro w hSw; (try dsimp only at hSw); go_simp; (try with_reducible rfl); done)); (try simp only [put_rules]))
        (refine wpAnyH_take (i := 1) (v := ?_) rfl (by kernel_rfl) (by kernel_rfl) (by kernel_rfl) (fun _ _ _ h => h) (Or.inl ⟨by rfl, ?_⟩) (by assumption) ?_; rotate_left; (focus (intro w hSw; (try dsimp only at hSw); go_simp; (try with_reducible rfl); done)); (try simp only [put_rules]))
        (refine wpAnyH_take (i := 2) (v := ?_) rfl (by kernel_rfl) (by kernel_rfl) (by kernel_rfl) (fun _ _ _ h => h) (Or.inl ⟨by rfl, ?_⟩) (by assumption) ?_; rotate_left; (focus (intro w hSw; (try dsimp only at hSw); go_simp; (try with_reducible rfl); done)); (try simp only [put_rules]))
        clear d0 d1 d2 hst hst1 hst2 hdd hdn hgi hs1 hs2 SA
        (refine wpAnyH_ready (rs := [3, 5, 6]) (by kernel_rfl) (by simp) ?_; refine AllReadyH.cons rfl (fun K hK => ?_) (AllReadyH.cons rfl (fun K hK => ?_) (AllReadyH.cons rfl (fun K hK => ?_) AllReadyH.nil)))
        · go_simp
          go_at_call 62
          refine (hop.out _).mono ?_
          rintro e w4 ⟨rfl, rfl⟩
          go_wp2_with fail
          have CC := S3.out
          (try simp only [World.size_alloc] at CC)
          refine hK.out _ _ ⟨CC.cell (i := 0) rfl (o := 0) rfl, CC.cell (i := 0) rfl (o := 1) rfl, CC.cell (i := 0) rfl (o := 2) rfl⟩ (fun hSd => ?_)
          clear hK CC
          (try simp only [put_rules])
          (refine wpAnyH_take (i := 4) (v := ?_) rfl (by kernel_rfl) (by kernel_rfl) (by kernel_rfl) (fun _ _ _ h => h) (Or.inl ⟨by rfl, ?_⟩) (by assumption) ?_; rotate_left; (focus (intro w hSw; (try dsimp only at hSw); go_simp; (try with_reducible rfl); done)); (try simp only [put_rules]))
          (refine wpAnyH_ready (rs := [5, 6]) (by kernel_rfl) (by simp) ?_; refine AllReadyH.cons rfl (fun K hK => ?_) (AllReadyH.cons rfl (fun K hK => ?_) AllReadyH.nil))
          · go_simp
            have CC := (S3.out).alloc_box #[.int .i64 0, .int .i64 0, .int .i64 0] 41
            (try simp only [World.size_alloc] at CC)
            refine hK.out _ _ ⟨CC.cell (i := 1) rfl (o := 0) rfl, CC.cell (i := 1) rfl (o := 1) rfl, CC.cell (i := 1) rfl (o := 2) rfl⟩ (fun hSd => ?_)
            clear hK CC
            (try simp only [put_rules])
            (refine wpAnyH_ready (rs := [6]) (by kernel_rfl) (by simp) ?_; refine AllReadyH.cons rfl (fun K hK => ?_) AllReadyH.nil)
            go_simp
            have CC := ((S3.out).alloc_box #[.int .i64 0, .int .i64 0, .int .i64 0] 41).alloc_box #[.int .i64 0, .int .i64 0, .int .i64 0] 41
            (try simp only [World.size_alloc] at CC)
            refine hK.out _ _ ⟨CC.cell (i := 2) rfl (o := 0) rfl, CC.cell (i := 2) rfl (o := 1) rfl, CC.cell (i := 2) rfl (o := 2) rfl⟩ (fun hSd => ?_)
            clear hK CC
            (try simp only [put_rules])
            have CC := ((S3.out).alloc_box #[.int .i64 0, .int .i64 0, .int .i64 0] 41).alloc_box #[.int .i64 0, .int .i64 0, .int .i64 0] 41
            (try simp only [World.size_alloc] at CC)
            have zz0 := CC.cell (i := 1) rfl (o := 0) rfl
            have ff0 := CC.frozen (i := 1) rfl 0
            have zz1 := CC.cell (i := 1) rfl (o := 1) rfl
            have ff1 := CC.frozen (i := 1) rfl 1
            have zz2 := CC.cell (i := 1) rfl (o := 2) rfl
            have ff2 := CC.frozen (i := 1) rfl 2
            clear CC
            (refine wpAnyH_ready (rs := [7]) (by kernel_rfl) (by simp) ?_; refine AllReadyH.cons rfl (fun K hK => ?_) AllReadyH.nil)
            go_simp
            have CC := ((S3.out).alloc_box #[.int .i64 gk, .int .i64 ga, .int .i64 gb] 41).alloc_box #[.int .i64 0, .int .i64 0, .int .i64 0] 41
            (try simp only [World.size_alloc] at CC)
            refine hK.out _ _ ⟨CC.cell (i := 2) rfl (o := 0) rfl, CC.cell (i := 2) rfl (o := 1) rfl, CC.cell (i := 2) rfl (o := 2) rfl⟩ (fun hSd => ?_)
            clear hK CC zz0 zz1 zz2 ff0 ff1 ff2
            (try simp only [put_rules])
            have CC := ((S3.out).alloc_box #[.int .i64 gk, .int .i64 ga, .int .i64 gb] 41).alloc_box #[.int .i64 0, .int .i64 0, .int .i64 0] 41
            (try simp only [World.size_alloc] at CC)
            have zz0 := CC.cell (i := 0) rfl (o := 0) rfl
            have ff0 := CC.frozen (i := 0) rfl 0
            have zz1 := CC.cell (i := 0) rfl (o := 1) rfl
            have ff1 := CC.frozen (i := 0) rfl 1
            have zz2 := CC.cell (i := 0) rfl (o := 2) rfl
            have ff2 := CC.frozen (i := 0) rfl 2
            clear CC
            (refine wpAnyH_ready (rs := [8]) (by kernel_rfl) (by simp) ?_; refine AllReadyH.cons rfl (fun K hK => ?_) AllReadyH.nil)
            go_simp
            have CC := ((S3.out).alloc_box #[.int .i64 gk, .int .i64 ga, .int .i64 gb] 41).alloc_box #[.int .i64 dk, .int .i64 0, .int .i64 0] 41
            (try simp only [World.size_alloc] at CC)
            refine hK.out _ _ ⟨CC.cell (i := 2) rfl (o := 0) rfl, CC.cell (i := 2) rfl (o := 1) rfl, CC.cell (i := 2) rfl (o := 2) rfl⟩ (fun hSd => ?_)
            clear hK CC zz0 zz1 zz2 ff0 ff1 ff2
            (try simp only [put_rules])
            have CC := ((S3.out).alloc_box #[.int .i64 gk, .int .i64 ga, .int .i64 gb] 41).alloc_box #[.int .i64 dk, .int .i64 0, .int .i64 0] 41
            (try simp only [World.size_alloc] at CC)
            (refine wpAnyH_done (by kernel_rfl) ?_ _)
            go_wp2_with fail
            go_meet
            first | exact ⟨_, _, rfl, rfl, Lib.hid (Sp.pick [1, 0, 0, 0, 0, 0] CC rfl)⟩ | exact ⟨_, _, rfl, rfl, Lib.hid (Sp.pick [1, 0, 0, 0, 0, 0] CC.drew rfl)⟩
          · go_simp
            have CC := (S3.out).alloc_box #[.int .i64 0, .int .i64 0, .int .i64 0] 41
            (try simp only [World.size_alloc] at CC)
            refine hK.out _ _ ⟨CC.cell (i := 1) rfl (o := 0) rfl, CC.cell (i := 1) rfl (o := 1) rfl, CC.cell (i := 1) rfl (o := 2) rfl⟩ (fun hSd => ?_)
            clear hK CC
            (try simp only [put_rules])
            (refine wpAnyH_ready (rs := [5]) (by kernel_rfl) (by simp) ?_; refine AllReadyH.cons rfl (fun K hK => ?_) AllReadyH.nil)
            go_simp
            have CC := ((S3.out).alloc_box #[.int .i64 0, .int .i64 0, .int .i64 0] 41).alloc_box #[.int .i64 0, .int .i64 0, .int .i64 0] 41
            (try simp only [World.size_alloc] at CC)
            refine hK.out _ _ ⟨CC.cell (i := 2) rfl (o := 0) rfl, CC.cell (i := 2) rfl (o := 1) rfl, CC.cell (i := 2) rfl (o := 2) rfl⟩ (fun hSd => ?_)
            clear hK CC
            (try simp only [put_rules])
            have CC := ((S3.out).alloc_box #[.int .i64 0, .int .i64 0, .int .i64 0] 41).alloc_box #[.int .i64 0, .int .i64 0, .int .i64 0] 41
            (try simp only [World.size_alloc] at CC)
            have zz0 := CC.cell (i := 0) rfl (o := 0) rfl
            have ff0 := CC.frozen (i := 0) rfl 0
            have zz1 := CC.cell (i := 0) rfl (o := 1) rfl
            have ff1 := CC.frozen (i := 0) rfl 1
            have zz2 := CC.cell (i := 0) rfl (o := 2) rfl
            have ff2 := CC.frozen (i := 0) rfl 2
            clear CC
            (refine wpAnyH_ready (rs := [7]) (by kernel_rfl) (by simp) ?_; refine AllReadyH.cons rfl (fun K hK => ?_) AllReadyH.nil)
            go_simp
            have CC := ((S3.out).alloc_box #[.int .i64 0, .int .i64 0, .int .i64 0] 41).alloc_box #[.int .i64 gk, .int .i64 ga, .int .i64 gb] 41
            (try simp only [World.size_alloc] at CC)
            refine hK.out _ _ ⟨CC.cell (i := 2) rfl (o := 0) rfl, CC.cell (i := 2) rfl (o := 1) rfl, CC.cell (i := 2) rfl (o := 2) rfl⟩ (fun hSd => ?_)
            clear hK CC zz0 zz1 zz2 ff0 ff1 ff2
            (try simp only [put_rules])
            have CC := ((S3.out).alloc_box #[.int .i64 0, .int .i64 0, .int .i64 0] 41).alloc_box #[.int .i64 gk, .int .i64 ga, .int .i64 gb] 41
            (try simp only [World.size_alloc] at CC)
            have zz0 := CC.cell (i := 1) rfl (o := 0) rfl
            have ff0 := CC.frozen (i := 1) rfl 0
            have zz1 := CC.cell (i := 1) rfl (o := 1) rfl
            have ff1 := CC.frozen (i := 1) rfl 1
            have zz2 := CC.cell (i := 1) rfl (o := 2) rfl
            have ff2 := CC.frozen (i := 1) rfl 2
            clear CC
            (refine wpAnyH_ready (rs := [8]) (by kernel_rfl) (by simp) ?_; refine AllReadyH.cons rfl (fun K hK => ?_) AllReadyH.nil)
            go_simp
            have CC := ((S3.out).alloc_box #[.int .i64 dk, .int .i64 0, .int .i64 0] 41).alloc_box #[.int .i64 gk, .int .i64 ga, .int .i64 gb] 41
            (try simp only [World.size_alloc] at CC)
            refine hK.out _ _ ⟨CC.cell (i := 2) rfl (o := 0) rfl, CC.cell (i := 2) rfl (o := 1) rfl, CC.cell (i := 2) rfl (o := 2) rfl⟩ (fun hSd => ?_)
            clear hK CC zz0 zz1 zz2 ff0 ff1 ff2
            (try simp only [put_rules])
            have CC := ((S3.out).alloc_box #[.int .i64 dk, .int .i64 0, .int .i64 0] 41).alloc_box #[.int .i64 gk, .int .i64 ga, .int .i64 gb] 41
            (try simp only [World.size_alloc] at CC)
            (refine wpAnyH_done (by kernel_rfl) ?_ _)
            go_wp2_with fail
            go_meet
            first | exact ⟨_, _, rfl, rfl, Lib.hid (Sp.pick [0, 0, 0, 0, 0, 0] CC rfl)⟩ | exact ⟨_, _, rfl, rfl, Lib.hid (Sp.pick [0, 0, 0, 0, 0, 0] CC.drew rfl)⟩
        · go_simp
          have CC := (S3.out).alloc_box #[.int .i64 0, .int .i64 0, .int .i64 0] 41
          (try simp only [World.size_alloc] at CC)
          refine hK.out _ _ ⟨CC.cell (i := 1) rfl (o := 0) rfl, CC.cell (i := 1) rfl (o := 1) rfl, CC.cell (i := 1) rfl (o := 2) rfl⟩ (fun hSd => ?_)
          clear hK CC
          (try simp only [put_rules])
          (refine wpAnyH_ready (rs := [3, 6]) (by kernel_rfl) (by simp) ?_; refine AllReadyH.cons rfl (fun K hK => ?_) (AllReadyH.cons rfl (fun K hK => ?_) AllReadyH.nil))
          · go_simp
            go_at_call 62
            refine (hop.out _).mono ?_
            rintro e w4 ⟨rfl, rfl⟩
            go_wp2_with fail
            have CC := (S3.out).alloc_box #[.int .i64 0, .int .i64 0, .int .i64 0] 41
            (try simp only [World.size_alloc] at CC)
            refine hK.out _ _ ⟨CC.cell (i := 1) rfl (o := 0) rfl, CC.cell (i := 1) rfl (o := 1) rfl, CC.cell (i := 1) rfl (o := 2) rfl⟩ (fun hSd => ?_)
            clear hK CC
            (try simp only [put_rules])
            (refine wpAnyH_take (i := 4) (v := ?_) rfl (by kernel_rfl) (by kernel_rfl) (by kernel_rfl) (fun _ _ _ h => h) (Or.inl ⟨by rfl, ?_⟩) (by assumption) ?_; rotate_left; (focus (intro w hSw; (try dsimp only at hSw); go_simp; (try with_reducible rfl); done)); (try simp only [put_rules]))
            (refine wpAnyH_ready (rs := [6]) (by kernel_rfl) (by simp) ?_; refine AllReadyH.cons rfl (fun K hK => ?_) AllReadyH.nil)
            go_simp
            have CC := ((S3.out).alloc_box #[.int .i64 0, .int .i64 0, .int .i64 0] 41).alloc_box #[.int .i64 0, .int .i64 0, .int .i64 0] 41
            (try simp only [World.size_alloc] at CC)
            refine hK.out _ _ ⟨CC.cell (i := 2) rfl (o := 0) rfl, CC.cell (i := 2) rfl (o := 1) rfl, CC.cell (i := 2) rfl (o := 2) rfl⟩ (fun hSd => ?_)
            clear hK CC
            (try simp only [put_rules])
            have CC := ((S3.out).alloc_box #[.int .i64 0, .int .i64 0, .int .i64 0] 41).alloc_box #[.int .i64 0, .int .i64 0, .int .i64 0] 41
            (try simp only [World.size_alloc] at CC)
            have zz0 := CC.cell (i := 1) rfl (o := 0) rfl
            have ff0 := CC.frozen (i := 1) rfl 0
            have zz1 := CC.cell (i := 1) rfl (o := 1) rfl
            have ff1 := CC.frozen (i := 1) rfl 1
            have zz2 := CC.cell (i := 1) rfl (o := 2) rfl
            have ff2 := CC.frozen (i := 1) rfl 2
            clear CC
            (refine wpAnyH_ready (rs := [7]) (by kernel_rfl) (by simp) ?_; refine AllReadyH.cons rfl (fun K hK => ?_) AllReadyH.nil)
            go_simp
            have CC := ((S3.out).alloc_box #[.int .i64 gk, .int .i64 ga, .int .i64 gb] 41).alloc_box #[.int .i64 0, .int .i64 0, .int .i64 0] 41
            (try simp only [World.size_alloc] at CC)
            refine hK.out _ _ ⟨CC.cell (i := 2) rfl (o := 0) rfl, CC.cell (i := 2) rfl (o := 1) rfl, CC.cell (i := 2) rfl (o := 2) rfl⟩ (fun hSd => ?_)
            clear hK CC zz0 zz1 zz2 ff0 ff1 ff2
            (try simp only [put_rules])
            have CC := ((S3.out).alloc_box #[.int .i64 gk, .int .i64 ga, .int .i64 gb] 41).alloc_box #[.int .i64 0, .int .i64 0, .int .i64 0] 41
            (try simp only [World.size_alloc] at CC)
            have zz0 := CC.cell (i := 0) rfl (o := 0) rfl
            have ff0 := CC.frozen (i := 0) rfl 0
            have zz1 := CC.cell (i := 0) rfl (o := 1) rfl
            have ff1 := CC.frozen (i := 0) rfl 1
            have zz2 := CC.cell (i := 0) rfl (o := 2) rfl
            have ff2 := CC.frozen (i := 0) rfl 2
            clear CC
            (refine wpAnyH_ready (rs := [8]) (by kernel_rfl) (by simp) ?_; refine AllReadyH.cons rfl (fun K hK => ?_) AllReadyH.nil)
            go_simp
            have CC := ((S3.out).alloc_box #[.int .i64 gk, .int .i64 ga, .int .i64 gb] 41).alloc_box #[.int .i64 dk, .int .i64 0, .int .i64 0] 41
            (try simp only [World.size_alloc] at CC)
            refine hK.out _ _ ⟨CC.cell (i := 2) rfl (o := 0) rfl, CC.cell (i := 2) rfl (o := 1) rfl, CC.cell (i := 2) rfl (o := 2) rfl⟩ (fun hSd => ?_)
            clear hK CC zz0 zz1 zz2 ff0 ff1 ff2
            (try simp only [put_rules])
            have CC := ((S3.out).alloc_box #[.int .i64 gk, .int .i64 ga, .int .i64 gb] 41).alloc_box #[.int .i64 dk, .int .i64 0, .int .i64 0] 41
            (try simp only [World.size_alloc] at CC)
            (refine wpAnyH_done (by kernel_rfl) ?_ _)
            go_wp2_with fail
            go_meet
            first | exact ⟨_, _, rfl, rfl, Lib.hid (Sp.pick [1, 0, 0, 0, 0, 0] CC rfl)⟩ | exact ⟨_, _, rfl, rfl, Lib.hid (Sp.pick [1, 0, 0, 0, 0, 0] CC.drew rfl)⟩
          · go_simp
            have CC := ((S3.out).alloc_box #[.int .i64 0, .int .i64 0, .int .i64 0] 41).alloc_box #[.int .i64 0, .int .i64 0, .int .i64 0] 41
            (try simp only [World.size_alloc] at CC)
            refine hK.out _ _ ⟨CC.cell (i := 2) rfl (o := 0) rfl, CC.cell (i := 2) rfl (o := 1) rfl, CC.cell (i := 2) rfl (o := 2) rfl⟩ (fun hSd => ?_)
            clear hK CC
            (try simp only [put_rules])
            (refine wpAnyH_ready (rs := [3]) (by kernel_rfl) (by simp) ?_; refine AllReadyH.cons rfl (fun K hK => ?_) AllReadyH.nil)
            go_simp
            go_at_call 62
            refine (hop.out _).mono ?_
            rintro e w4 ⟨rfl, rfl⟩
            go_wp2_with fail
            have CC := ((S3.out).alloc_box #[.int .i64 0, .int .i64 0, .int .i64 0] 41).alloc_box #[.int .i64 0, .int .i64 0, .int .i64 0] 41
            (try simp only [World.size_alloc] at CC)
            refine hK.out _ _ ⟨CC.cell (i := 2) rfl (o := 0) rfl, CC.cell (i := 2) rfl (o := 1) rfl, CC.cell (i := 2) rfl (o := 2) rfl⟩ (fun hSd => ?_)
            clear hK CC
            (try simp only [put_rules])
            (refine wpAnyH_take (i := 4) (v := ?_) rfl (by kernel_rfl) (by kernel_rfl) (by kernel_rfl) (fun _ _ _ h => h) (Or.inl ⟨by rfl, ?_⟩) (by assumption) ?_; rotate_left; (focus (intro w hSw; (try dsimp only at hSw); go_simp; (try with_reducible rfl); done)); (try simp only [put_rules]))
            have CC := ((S3.out).alloc_box #[.int .i64 0, .int .i64 0, .int .i64 0] 41).alloc_box #[.int .i64 0, .int .i64 0, .int .i64 0] 41
            (try simp only [World.size_alloc] at CC)
            have zz0 := CC.cell (i := 1) rfl (o := 0) rfl
            have ff0 := CC.frozen (i := 1) rfl 0
            have zz1 := CC.cell (i := 1) rfl (o := 1) rfl
            have ff1 := CC.frozen (i := 1) rfl 1
            have zz2 := CC.cell (i := 1) rfl (o := 2) rfl
            have ff2 := CC.frozen (i := 1) rfl 2
            clear CC
            (refine wpAnyH_ready (rs := [7]) (by kernel_rfl) (by simp) ?_; refine AllReadyH.cons rfl (fun K hK => ?_) AllReadyH.nil)
            go_simp
            have CC := ((S3.out).alloc_box #[.int .i64 gk, .int .i64 ga, .int .i64 gb] 41).alloc_box #[.int .i64 0, .int .i64 0, .int .i64 0] 41
            (try simp only [World.size_alloc] at CC)
            refine hK.out _ _ ⟨CC.cell (i := 2) rfl (o := 0) rfl, CC.cell (i := 2) rfl (o := 1) rfl, CC.cell (i := 2) rfl (o := 2) rfl⟩ (fun hSd => ?_)
            clear hK CC zz0 zz1 zz2 ff0 ff1 ff2
            (try simp only [put_rules])
            have CC := ((S3.out).alloc_box #[.int .i64 gk, .int .i64 ga, .int .i64 gb] 41).alloc_box #[.int .i64 0, .int .i64 0, .int .i64 0] 41
            (try simp only [World.size_alloc] at CC)
            have zz0 := CC.cell (i := 0) rfl (o := 0) rfl
            have ff0 := CC.frozen (i := 0) rfl 0
            have zz1 := CC.cell (i := 0) rfl (o := 1) rfl
            have ff1 := CC.frozen (i := 0) rfl 1
            have zz2 := CC.cell (i := 0) rfl (o := 2) rfl
            have ff2 := CC.frozen (i := 0) rfl 2
            clear CC
            (refine wpAnyH_ready (rs := [8]) (by kernel_rfl) (by simp) ?_; refine AllReadyH.cons rfl (fun K hK => ?_) AllReadyH.nil)
            go_simp
            have CC := ((S3.out).alloc_box #[.int .i64 gk, .int .i64 ga, .int .i64 gb] 41).alloc_box #[.int .i64 dk, .int .i64 0, .int .i64 0] 41
            (try simp only [World.size_alloc] at CC)
            refine hK.out _ _ ⟨CC.cell (i := 2) rfl (o := 0) rfl, CC.cell (i := 2) rfl (o := 1) rfl, CC.cell (i := 2) rfl (o := 2) rfl⟩ (fun hSd => ?_)
            clear hK CC zz0 zz1 zz2 ff0 ff1 ff2
            (try simp only [put_rules])
            have CC := ((S3.out).alloc_box #[.int .i64 gk, .int .i64 ga, .int .i64 gb] 41).alloc_box #[.int .i64 dk, .int .i64 0, .int .i64 0] 41
            (try simp only [World.size_alloc] at CC)
            (refine wpAnyH_done (by kernel_rfl) ?_ _)
            go_wp2_with fail
            go_meet
            first | exact ⟨_, _, rfl, rfl, Lib.hid (Sp.pick [1, 0, 0, 0, 0, 0] CC rfl)⟩ | exact ⟨_, _, rfl, rfl, Lib.hid (Sp.pick [1, 0, 0, 0, 0, 0] CC.drew rfl)⟩
        · go_simp
          have CC := (S3.out).alloc_box #[.int .i64 0, .int .i64 0, .int .i64 0] 41
          (try simp only [World.size_alloc] at CC)
          refine hK.out _ _ ⟨CC.cell (i := 1) rfl (o := 0) rfl, CC.cell (i := 1) rfl (o := 1) rfl, CC.cell (i := 1) rfl (o := 2) rfl⟩ (fun hSd => ?_)
          clear hK CC
          (try simp only [put_rules])
          (refine wpAnyH_ready (rs := [3, 5]) (by kernel_rfl) (by simp) ?_; refine AllReadyH.cons rfl (fun K hK => ?_) (AllReadyH.cons rfl (fun K hK => ?_) AllReadyH.nil))
          · go_simp
            go_at_call 62
            refine (hop.out _).mono ?_
            rintro e w4 ⟨rfl, rfl⟩
            go_wp2_with fail
            have CC := (S3.out).alloc_box #[.int .i64 0, .int .i64 0, .int .i64 0] 41
            (try simp only [World.size_alloc] at CC)
            refine hK.out _ _ ⟨CC.cell (i := 1) rfl (o := 0) rfl, CC.cell (i := 1) rfl (o := 1) rfl, CC.cell (i := 1) rfl (o := 2) rfl⟩ (fun hSd => ?_)
            clear hK CC
            (try simp only [put_rules])
            (refine wpAnyH_take (i := 4) (v := ?_) rfl (by kernel_rfl) (by kernel_rfl) (by kernel_rfl) (fun _ _ _ h => h) (Or.inl ⟨by rfl, ?_⟩) (by assumption) ?_; rotate_left; (focus (intro w hSw; (try dsimp only at hSw); go_simp; (try with_reducible rfl); done)); (try simp only [put_rules]))
            (refine wpAnyH_ready (rs := [5]) (by kernel_rfl) (by simp) ?_; refine AllReadyH.cons rfl (fun K hK => ?_) AllReadyH.nil)
            go_simp
            have CC := ((S3.out).alloc_box #[.int .i64 0, .int .i64 0, .int .i64 0] 41).alloc_box #[.int .i64 0, .int .i64 0, .int .i64 0] 41
            (try simp only [World.size_alloc] at CC)
            refine hK.out _ _ ⟨CC.cell (i := 2) rfl (o := 0) rfl, CC.cell (i := 2) rfl (o := 1) rfl, CC.cell (i := 2) rfl (o := 2) rfl⟩ (fun hSd => ?_)
            clear hK CC
            (try simp only [put_rules])
            have CC := ((S3.out).alloc_box #[.int .i64 0, .int .i64 0, .int .i64 0] 41).alloc_box #[.int .i64 0, .int .i64 0, .int .i64 0] 41
            (try simp only [World.size_alloc] at CC)
            have zz0 := CC.cell (i := 0) rfl (o := 0) rfl
            have ff0 := CC.frozen (i := 0) rfl 0
            have zz1 := CC.cell (i := 0) rfl (o := 1) rfl
            have ff1 := CC.frozen (i := 0) rfl 1
            have zz2 := CC.cell (i := 0) rfl (o := 2) rfl
            have ff2 := CC.frozen (i := 0) rfl 2
            clear CC
            (refine wpAnyH_ready (rs := [7]) (by kernel_rfl) (by simp) ?_; refine AllReadyH.cons rfl (fun K hK => ?_) AllReadyH.nil)
            go_simp
            have CC := ((S3.out).alloc_box #[.int .i64 0, .int .i64 0, .int .i64 0] 41).alloc_box #[.int .i64 gk, .int .i64 ga, .int .i64 gb] 41
            (try simp only [World.size_alloc] at CC)
            refine hK.out _ _ ⟨CC.cell (i := 2) rfl (o := 0) rfl, CC.cell (i := 2) rfl (o := 1) rfl, CC.cell (i := 2) rfl (o := 2) rfl⟩ (fun hSd => ?_)
            clear hK CC zz0 zz1 zz2 ff0 ff1 ff2
            (try simp only [put_rules])
            have CC := ((S3.out).alloc_box #[.int .i64 0, .int .i64 0, .int .i64 0] 41).alloc_box #[.int .i64 gk, .int .i64 ga, .int .i64 gb] 41
            (try simp only [World.size_alloc] at CC)
            have zz0 := CC.cell (i := 1) rfl (o := 0) rfl
            have ff0 := CC.frozen (i := 1) rfl 0
            have zz1 := CC.cell (i := 1) rfl (o := 1) rfl
            have ff1 := CC.frozen (i := 1) rfl 1
            have zz2 := CC.cell (i := 1) rfl (o := 2) rfl
            have ff2 := CC.frozen (i := 1) rfl 2
            clear CC
            (refine wpAnyH_ready (rs := [8]) (by kernel_rfl) (by simp) ?_; refine AllReadyH.cons rfl (fun K hK => ?_) AllReadyH.nil)
            go_simp
            have CC := ((S3.out).alloc_box #[.int .i64 dk, .int .i64 0, .int .i64 0] 41).alloc_box #[.int .i64 gk, .int .i64 ga, .int .i64 gb] 41
            (try simp only [World.size_alloc] at CC)
            refine hK.out _ _ ⟨CC.cell (i := 2) rfl (o := 0) rfl, CC.cell (i := 2) rfl (o := 1) rfl, CC.cell (i := 2) rfl (o := 2) rfl⟩ (fun hSd => ?_)
            clear hK CC zz0 zz1 zz2 ff0 ff1 ff2
            (try simp only [put_rules])
            have CC := ((S3.out).alloc_box #[.int .i64 dk, .int .i64 0, .int .i64 0] 41).alloc_box #[.int .i64 gk, .int .i64 ga, .int .i64 gb] 41
            (try simp only [World.size_alloc] at CC)
            (refine wpAnyH_done (by kernel_rfl) ?_ _)
            go_wp2_with fail
            go_meet
            first | exact ⟨_, _, rfl, rfl, Lib.hid (Sp.pick [0, 0, 0, 0, 0, 0] CC rfl)⟩ | exact ⟨_, _, rfl, rfl, Lib.hid (Sp.pick [0, 0, 0, 0, 0, 0] CC.drew rfl)⟩
          · go_simp
            have CC := ((S3.out).alloc_box #[.int .i64 0, .int .i64 0, .int .i64 0] 41).alloc_box #[.int .i64 0, .int .i64 0, .int .i64 0] 41
            (try simp only [World.size_alloc] at CC)
            refine hK.out _ _ ⟨CC.cell (i := 2) rfl (o := 0) rfl, CC.cell (i := 2) rfl (o := 1) rfl, CC.cell (i := 2) rfl (o := 2) rfl⟩ (fun hSd => ?_)
            clear hK CC
            (try simp only [put_rules])
            (refine wpAnyH_ready (rs := [3]) (by kernel_rfl) (by simp) ?_; refine AllReadyH.cons rfl (fun K hK => ?_) AllReadyH.nil)
            go_simp
            go_at_call 62
            refine (hop.out _).mono ?_
            rintro e w4 ⟨rfl, rfl⟩
            go_wp2_with fail
            have CC := ((S3.out).alloc_box #[.int .i64 0, .int .i64 0, .int .i64 0] 41).alloc_box #[.int .i64 0, .int .i64 0, .int .i64 0] 41
            (try simp only [World.size_alloc] at CC)
            refine hK.out _ _ ⟨CC.cell (i := 2) rfl (o := 0) rfl, CC.cell (i := 2) rfl (o := 1) rfl, CC.cell (i := 2) rfl (o := 2) rfl⟩ (fun hSd => ?_)
            clear hK CC
            (try simp only [put_rules])
            (refine wpAnyH_take (i := 4) (v := ?_) rfl (by kernel_rfl) (by kernel_rfl) (by kernel_rfl) (fun _ _ _ h => h) (Or.inl ⟨by rfl, ?_⟩) (by assumption) ?_; rotate_left; (focus (intro w hSw; (try dsimp only at hSw); go_simp; (try with_reducible rfl); done)); (try simp only [put_rules]))
            have CC := ((S3.out).alloc_box #[.int .i64 0, .int .i64 0, .int .i64 0] 41).alloc_box #[.int .i64 0, .int .i64 0, .int .i64 0] 41
            (try simp only [World.size_alloc] at CC)
            have zz0 := CC.cell (i := 0) rfl (o := 0) rfl
            have ff0 := CC.frozen (i := 0) rfl 0
            have zz1 := CC.cell (i := 0) rfl (o := 1) rfl
            have ff1 := CC.frozen (i := 0) rfl 1
            have zz2 := CC.cell (i := 0) rfl (o := 2) rfl
            have ff2 := CC.frozen (i := 0) rfl 2
            clear CC
            (refine wpAnyH_ready (rs := [7]) (by kernel_rfl) (by simp) ?_; refine AllReadyH.cons rfl (fun K hK => ?_) AllReadyH.nil)
            go_simp
            have CC := ((S3.out).alloc_box #[.int .i64 0, .int .i64 0, .int .i64 0] 41).alloc_box #[.int .i64 gk, .int .i64 ga, .int .i64 gb] 41
            (try simp only [World.size_alloc] at CC)
            refine hK.out _ _ ⟨CC.cell (i := 2) rfl (o := 0) rfl, CC.cell (i := 2) rfl (o := 1) rfl, CC.cell (i := 2) rfl (o := 2) rfl⟩ (fun hSd => ?_)
            clear hK CC zz0 zz1 zz2 ff0 ff1 ff2
            (try simp only [put_rules])
            have CC := ((S3.out).alloc_box #[.int .i64 0, .int .i64 0, .int .i64 0] 41).alloc_box #[.int .i64 gk, .int .i64 ga, .int .i64 gb] 41
            (try simp only [World.size_alloc] at CC)
            have zz0 := CC.cell (i := 1) rfl (o := 0) rfl
            have ff0 := CC.frozen (i := 1) rfl 0
            have zz1 := CC.cell (i := 1) rfl (o := 1) rfl
            have ff1 := CC.frozen (i := 1) rfl 1
            have zz2 := CC.cell (i := 1) rfl (o := 2) rfl
            have ff2 := CC.frozen (i := 1) rfl 2
            clear CC
            (refine wpAnyH_ready (rs := [8]) (by kernel_rfl) (by simp) ?_; refine AllReadyH.cons rfl (fun K hK => ?_) AllReadyH.nil)
            go_simp
            have CC := ((S3.out).alloc_box #[.int .i64 dk, .int .i64 0, .int .i64 0] 41).alloc_box #[.int .i64 gk, .int .i64 ga, .int .i64 gb] 41
            (try simp only [World.size_alloc] at CC)
            refine hK.out _ _ ⟨CC.cell (i := 2) rfl (o := 0) rfl, CC.cell (i := 2) rfl (o := 1) rfl, CC.cell (i := 2) rfl (o := 2) rfl⟩ (fun hSd => ?_)
            clear hK CC zz0 zz1 zz2 ff0 ff1 ff2
            (try simp only [put_rules])
            have CC := ((S3.out).alloc_box #[.int .i64 dk, .int .i64 0, .int .i64 0] 41).alloc_box #[.int .i64 gk, .int .i64 ga, .int .i64 gb] 41
            (try simp only [World.size_alloc] at CC)
            (refine wpAnyH_done (by kernel_rfl) ?_ _)
            go_wp2_with fail
            go_meet
            first | exact ⟨_, _, rfl, rfl, Lib.hid (Sp.pick [0, 0, 0, 0, 0, 0] CC rfl)⟩ | exact ⟨_, _, rfl, rfl, Lib.hid (Sp.pick [0, 0, 0, 0, 0, 0] CC.drew rfl)⟩
      case rest =>
      obtain ⟨b1, b2, rfl, rfl, S4⟩ := hcut
      clear SA d0 d1 d2 hop m0 m1 m2
      have v0 := S4.out.cell (i := 2) rfl (o := 0) rfl
      by_cases h1 : gk = 1
      · subst h1
        have z0 := S4.out.cell (i := 1) rfl (o := 0) rfl
        have z1 := S4.out.cell (i := 1) rfl (o := 1) rfl
        have z2 := S4.out.cell (i := 1) rfl (o := 2) rfl
        have g0 := S4.out.frozen (i := 1) rfl 0
        have g1 := S4.out.frozen (i := 1) rfl 1
        have g2 := S4.out.frozen (i := 1) rfl 2
        have S5 := ((S4.out.store (i := 1) rfl 0 (.int .i64 4)).store (i := 1) rfl 1 (.int .i64 (M.length : Nat))).store (i := 1) rfl 2 (.int .i64 0)
        simp only [List.set_cons_zero, List.set_cons_succ] at S5
        have e0 := S5.cell (i := 0) rfl (o := 0) rfl
        replace S5 := Lib.hid S5
        clear S4 e0
        have hS := S5
        clear S5
        have S3 := hS.out.alloc_box #[.int .i64 (M.length : Nat)] 3
        (try simp only [World.size_alloc, World.size_setCell] at S3)
        have kB := S3.cell (i := 0) rfl (o := 0) rfl
        replace S3 := Lib.hid S3
        clear hS
        go_wp2_with (at_builtin; refine wpList_append_src rfl _ _ rfl Try.underlying45 hj0 hy0 hy1 hy2 rfl (by decide) _ q _ rfl (S3.out.own (i := 5) rfl) _ 1 1 [.int .i64 (M.length : Nat)] rfl (Src.one kB) (by simp [Value.oneCell']) ?c3 ?c4 ?_)
        case c3 => unfold maxLen; omega
        case c4 => omega
        intro vE wE hownE hgE hatE
        have S4 := (S3.out.own_push (i := 5) rfl (bb _) hownE hgE (by simpa using hatE)).tail
        simp only [List.set_cons_zero, List.set_cons_succ] at S4
        obtain ⟨aN, cN, rfl⟩ := own_slice hownE
        have hS := Lib.hid S4
        clear S3 S4 kB hownE hgE hatE
        have S3 := hS.out.alloc_box #[.int .i64 ((M.length : Int) + 1)] 3
        (try simp only [World.size_alloc, World.size_setCell] at S3)
        have kB := S3.cell (i := 0) rfl (o := 0) rfl
        replace S3 := Lib.hid S3
        clear hS
        go_wp2_with (at_builtin; refine wpList_append_src rfl _ _ rfl Try.underlying45 hj0 hy0 hy1 hy2 rfl (by decide) _ q _ rfl (S3.out.own (i := 6) rfl) _ 1 1 [.int .i64 ((M.length : Int) + 1)] rfl (Src.one kB) (by simp [Value.oneCell']) ?c3 ?c4 ?_)
        case c3 => unfold maxLen; omega
        case c4 => omega
        intro vE wE hownE hgE hatE
        have S4 := (S3.out.own_push (i := 6) rfl (bb _) hownE hgE (by simpa using hatE)).tail
        simp only [List.set_cons_zero, List.set_cons_succ] at S4
        obtain ⟨aN, cN, rfl⟩ := own_slice hownE
        have hS := Lib.hid S4
        clear S3 S4 kB hownE hgE hatE
        have e0 := hS.out.cell (i := 0) rfl (o := 0) rfl
        have e1 := hS.out.cell (i := 0) rfl (o := 1) rfl
        have e2 := hS.out.cell (i := 0) rfl (o := 2) rfl
        have e3 := hS.out.cell (i := 1) rfl (o := 0) rfl
        have e4 := hS.out.cell (i := 1) rfl (o := 1) rfl
        have e5 := hS.out.cell (i := 1) rfl (o := 2) rfl
        have S8 := hS.out.alloc_box #[.int .i64 1, .int .i64 ga, .int .i64 gb, .int .i64 4, .int .i64 (M.length : Nat), .int .i64 0] 41
        (try simp only [World.size_alloc, World.size_setCell] at S8)
        have kG0 := S8.cell (i := 0) rfl (o := 0) rfl
        have kG1 := S8.cell (i := 0) rfl (o := 1) rfl
        have kG2 := S8.cell (i := 0) rfl (o := 2) rfl
        have kG3 := S8.cell (i := 0) rfl (o := 3) rfl
        have kG4 := S8.cell (i := 0) rfl (o := 4) rfl
        have kG5 := S8.cell (i := 0) rfl (o := 5) rfl
        replace S8 := Lib.hid S8
        clear hS
        go_wp2_with (at_builtin; refine wpList_append_src rfl _ _ rfl Try.underlying28 hi0 hz0 hz1 hz2 rfl (by decide) _ M.length _ rfl (S8.out.own (i := 4) rfl) _ 2 2 [.int .i64 1, .int .i64 ga, .int .i64 gb, .int .i64 4, .int .i64 (M.length : Nat), .int .i64 0] rfl (Src.sixG kG0 kG1 kG2 kG3 kG4 kG5) (by simp [Value.oneCell']) ?c3 ?c4 ?_)
        case c3 => unfold maxLen; omega
        case c4 => omega
        intro vE wE hownE hgE hatE
        have S9 := (S8.out.own_push (i := 4) rfl (bb _) hownE hgE (by simpa using hatE)).tail
        simp only [List.set_cons_zero, List.set_cons_succ] at S9
        obtain ⟨aE, cE, rfl⟩ := own_slice hownE
        replace S9 := Lib.hid (S9.pick [3, 3, 3] rfl)
        clear S8 hownE hgE hatE kG0 kG1 kG2 kG3 kG4 kG5 e0 e1 e2 e3 e4 e5
        have hst4 := hst.out.trans (hst1.out (by first | rfl | trivial))
        replace hst4 := Lib.hid hst4
        go_wp2_with fail
        go_roundw
        case rel =>
          refine ⟨q + 1, _, _, _, by omega, by first | rfl | simp, rfl, rfl, rfl, ?_⟩
          unfold Hid PrSp
          rw [hst4.out]
          dsimp only
          rw [List.length_append, List.length_append, flat_snoc, flat_snoc, List.append_assoc, natI_snoc, natI_snoc, show ((M.length + 1 : Nat) : Int) = (M.length : Int) + 1 by omega]
          exact S9.out
        case measure => simp [intOf]; omega
      have hst3 := hst2.out h1
      by_cases h56 : gk = 5 ∨ gk = 6
      · have hza : insG ⟨gk, ga, gb⟩ = [ga.toNat, gb.toNat] := by unfold insG; rw [if_neg h4, if_pos h56]
        obtain ⟨a, rfl⟩ : ∃ a : Nat, ga = a := ⟨ga.toNat, by have := hgi.out; omega⟩
        obtain ⟨b, rfl⟩ : ∃ b : Nat, gb = b := ⟨gb.toNat, by have := hgi.out; omega⟩
        rw [Int.toNat_natCast, Int.toNat_natCast] at hza
        have haq : a < q := hlt2 a (by rw [hza]; simp)
        have hbq : b < q := hlt2 b (by rw [hza]; simp)
        have hai : (a : Int) < q := by omega
        have hbi : (b : Int) < q := by omega
        have hI1 := S4.out.intsN (i := 4) rfl hn1 hs1.out
        have hI2 := S4.out.intsN (i := 5) rfl hn2 hs2.out
        obtain ⟨yb, yo, e, -⟩ := hI1.at_ a (by rw [natI_len]; omega)
        cases e
        obtain ⟨nb, no, e, t0⟩ := hI2.at_ a (by rw [natI_len]; omega)
        cases e
        obtain ⟨nb', no', e, t1⟩ := hI2.at_ b (by rw [natI_len]; omega)
        cases e
        have natv : ∀ (l : List Nat) (k : Nat) (hk : k < l.length), (natI l)[k]'(by rw [natI_len]; exact hk) = ((l.getD k 0 : Nat) : Int) := fun l k hk => by
          rw [List.getD_eq_getElem?_getD, List.getElem?_eq_getElem hk]
          simp [natI]
        rw [natv ot a (by omega)] at t0
        rw [natv ot b (by omega)] at t1
        have hmv := Lib.hid (fun W (hW : Below wc.heap.size wc W) => l6Moved_any ⟨gk, (a : Int), (b : Int)⟩ yb yo q cY (fun k => sm.getD k 0) (by dsimp only; omega) (by dsimp only; omega) W (fun k hk => by
          have hkq := hlt2 k hk
          obtain ⟨b', o', e', t⟩ := hI1.at_ k (by rw [natI_len]; omega)
          cases e'
          rw [natv sm k (by omega)] at t
          exact ⟨hkq, (hW.cell (p := ⟨yb, yo + k, none⟩) (World.block_lt_of_cell? _ _ t)).trans t⟩))
        have hmG : mvG (fun k => ot.getD k 0) ⟨dk, (a : Int), (b : Int)⟩ = ⟨dk, (ot.getD a 0 : Nat), (ot.getD b 0 : Nat)⟩ := by
          have hd5 := hdd.out h56
          have hd4 : dk ≠ 4 := by omega
          unfold mvG
          rw [if_neg hd4, if_pos hd5]
          rfl
        rw [hmG] at hst3
        have hzk := mv_k (fun k => sm.getD k 0) ⟨gk, (a : Int), (b : Int)⟩
        generalize mvG (fun k => sm.getD k 0) ⟨gk, (a : Int), (b : Int)⟩ = z at hmv hst3 hzk
        obtain ⟨zk, za, zb⟩ := z
        obtain ⟨x, hx⟩ : ∃ x, ot.getD a 0 = x := ⟨_, rfl⟩
        obtain ⟨y, hy⟩ : ∃ y, ot.getD b 0 = y := ⟨_, rfl⟩
        rw [hx, hy] at hst3
        replace hx := Lib.hid hx
        replace hy := Lib.hid hy
        replace natv := Lib.hid natv
        clear hza hI1 hI2 hmG hzk t0 t1
        have v1 := S4.out.cell (i := 2) rfl (o := 1) rfl
        have v2 := S4.out.cell (i := 2) rfl (o := 2) rfl
        have hm2 := Lib.hid (hmv.out _ (bb _))
        clear hmv
        replace hst3 := Lib.hid hst3
        rcases h56 with rfl | rfl
        · skip
          go_wp2_with fail
          refine hm2.out.mono ?_
          rintro e w5 ⟨rfl, hb5⟩
          have S5 := S4.out.grow hb5
          have z0 := S5.cell (i := 0) rfl (o := 0) rfl
          have z1 := S5.cell (i := 0) rfl (o := 1) rfl
          have z2 := S5.cell (i := 0) rfl (o := 2) rfl
          have g0 := S5.frozen (i := 0) rfl 0
          have g1 := S5.frozen (i := 0) rfl 1
          have g2 := S5.frozen (i := 0) rfl 2
          have S6 := ((S5.store (i := 0) rfl 0 (.int .i64 zk)).store (i := 0) rfl 1 (.int .i64 za)).store (i := 0) rfl 2 (.int .i64 zb)
          simp only [List.set_cons_zero, List.set_cons_succ] at S6
          have J2 := S6.intsN (i := 5) rfl hn2 hs2.out
          obtain ⟨nb1, no1, e, t2⟩ := J2.at_ a (by rw [natI_len]; omega)
          cases e
          rw [natv.out ot a (by omega), hx.out] at t2
          have u1 := S6.cell (i := 2) rfl (o := 1) rfl
          have y1 := S6.cell (i := 1) rfl (o := 1) rfl
          have k1 := S6.frozen (i := 1) rfl 1
          have S7 := S6.store (i := 1) rfl 1 (.int .i64 (x : Nat))
          simp only [List.set_cons_zero, List.set_cons_succ] at S7
          have J3 := S7.intsN (i := 5) rfl hn2 hs2.out
          obtain ⟨nb2, no2, e, t3⟩ := J3.at_ b (by rw [natI_len]; omega)
          cases e
          rw [natv.out ot b (by omega), hy.out] at t3
          have u2 := S7.cell (i := 2) rfl (o := 2) rfl
          have y2 := S7.cell (i := 1) rfl (o := 2) rfl
          have k2 := S7.frozen (i := 1) rfl 2
          have S8 := S7.store (i := 1) rfl 2 (.int .i64 (y : Nat))
          simp only [List.set_cons_zero, List.set_cons_succ] at S8
          have S5 := Lib.hid S8
          clear S4 S6 S7 S8 J2 J3 hb5 hm2
          have hS := S5
          clear S5
          have S3 := hS.out.alloc_box #[.int .i64 (M.length : Nat)] 3
          (try simp only [World.size_alloc, World.size_setCell] at S3)
          have kB := S3.cell (i := 0) rfl (o := 0) rfl
          replace S3 := Lib.hid S3
          clear hS
          go_wp2_with (at_builtin; refine wpList_append_src rfl _ _ rfl Try.underlying45 hj0 hy0 hy1 hy2 rfl (by decide) _ q _ rfl (S3.out.own (i := 5) rfl) _ 1 1 [.int .i64 (M.length : Nat)] rfl (Src.one kB) (by simp [Value.oneCell']) ?c3 ?c4 ?_)
          case c3 => unfold maxLen; omega
          case c4 => omega
          intro vE wE hownE hgE hatE
          have S4 := (S3.out.own_push (i := 5) rfl (bb _) hownE hgE (by simpa using hatE)).tail
          simp only [List.set_cons_zero, List.set_cons_succ] at S4
          obtain ⟨aN, cN, rfl⟩ := own_slice hownE
          have hS := Lib.hid S4
          clear S3 S4 kB hownE hgE hatE
          have S3 := hS.out.alloc_box #[.int .i64 ((M.length : Int) + 1)] 3
          (try simp only [World.size_alloc, World.size_setCell] at S3)
          have kB := S3.cell (i := 0) rfl (o := 0) rfl
          replace S3 := Lib.hid S3
          clear hS
          go_wp2_with (at_builtin; refine wpList_append_src rfl _ _ rfl Try.underlying45 hj0 hy0 hy1 hy2 rfl (by decide) _ q _ rfl (S3.out.own (i := 6) rfl) _ 1 1 [.int .i64 ((M.length : Int) + 1)] rfl (Src.one kB) (by simp [Value.oneCell']) ?c3 ?c4 ?_)
          case c3 => unfold maxLen; omega
          case c4 => omega
          intro vE wE hownE hgE hatE
          have S4 := (S3.out.own_push (i := 6) rfl (bb _) hownE hgE (by simpa using hatE)).tail
          simp only [List.set_cons_zero, List.set_cons_succ] at S4
          obtain ⟨aN, cN, rfl⟩ := own_slice hownE
          have hS := Lib.hid S4
          clear S3 S4 kB hownE hgE hatE
          have e0 := hS.out.cell (i := 0) rfl (o := 0) rfl
          have e1 := hS.out.cell (i := 0) rfl (o := 1) rfl
          have e2 := hS.out.cell (i := 0) rfl (o := 2) rfl
          have e3 := hS.out.cell (i := 1) rfl (o := 0) rfl
          have e4 := hS.out.cell (i := 1) rfl (o := 1) rfl
          have e5 := hS.out.cell (i := 1) rfl (o := 2) rfl
          have S8 := hS.out.alloc_box #[.int .i64 zk, .int .i64 za, .int .i64 zb, .int .i64 dk, .int .i64 (x : Nat), .int .i64 (y : Nat)] 41
          (try simp only [World.size_alloc, World.size_setCell] at S8)
          have kG0 := S8.cell (i := 0) rfl (o := 0) rfl
          have kG1 := S8.cell (i := 0) rfl (o := 1) rfl
          have kG2 := S8.cell (i := 0) rfl (o := 2) rfl
          have kG3 := S8.cell (i := 0) rfl (o := 3) rfl
          have kG4 := S8.cell (i := 0) rfl (o := 4) rfl
          have kG5 := S8.cell (i := 0) rfl (o := 5) rfl
          replace S8 := Lib.hid S8
          clear hS
          go_wp2_with (at_builtin; refine wpList_append_src rfl _ _ rfl Try.underlying28 hi0 hz0 hz1 hz2 rfl (by decide) _ M.length _ rfl (S8.out.own (i := 4) rfl) _ 2 2 [.int .i64 zk, .int .i64 za, .int .i64 zb, .int .i64 dk, .int .i64 (x : Nat), .int .i64 (y : Nat)] rfl (Src.sixG kG0 kG1 kG2 kG3 kG4 kG5) (by simp [Value.oneCell']) ?c3 ?c4 ?_)
          case c3 => unfold maxLen; omega
          case c4 => omega
          intro vE wE hownE hgE hatE
          have S9 := (S8.out.own_push (i := 4) rfl (bb _) hownE hgE (by simpa using hatE)).tail
          simp only [List.set_cons_zero, List.set_cons_succ] at S9
          obtain ⟨aE, cE, rfl⟩ := own_slice hownE
          replace S9 := Lib.hid (S9.pick [3, 3, 3] rfl)
          clear S8 hownE hgE hatE kG0 kG1 kG2 kG3 kG4 kG5 e0 e1 e2 e3 e4 e5
          have hst4 := hst.out.trans (hst3.out)
          replace hst4 := Lib.hid hst4
          go_wp2_with fail
          go_roundw
          case rel =>
            refine ⟨q + 1, _, _, _, by omega, by first | rfl | simp, rfl, rfl, rfl, ?_⟩
            unfold Hid PrSp
            rw [hst4.out]
            dsimp only
            rw [List.length_append, List.length_append, flat_snoc, flat_snoc, List.append_assoc, natI_snoc, natI_snoc, show ((M.length + 1 : Nat) : Int) = (M.length : Int) + 1 by omega]
            exact S9.out
          case measure => simp [intOf]; omega
        · skip
          go_wp2_with fail
          refine hm2.out.mono ?_
          rintro e w5 ⟨rfl, hb5⟩
          have S5 := S4.out.grow hb5
          have z0 := S5.cell (i := 0) rfl (o := 0) rfl
          have z1 := S5.cell (i := 0) rfl (o := 1) rfl
          have z2 := S5.cell (i := 0) rfl (o := 2) rfl
          have g0 := S5.frozen (i := 0) rfl 0
          have g1 := S5.frozen (i := 0) rfl 1
          have g2 := S5.frozen (i := 0) rfl 2
          have S6 := ((S5.store (i := 0) rfl 0 (.int .i64 zk)).store (i := 0) rfl 1 (.int .i64 za)).store (i := 0) rfl 2 (.int .i64 zb)
          simp only [List.set_cons_zero, List.set_cons_succ] at S6
          have J2 := S6.intsN (i := 5) rfl hn2 hs2.out
          obtain ⟨nb1, no1, e, t2⟩ := J2.at_ a (by rw [natI_len]; omega)
          cases e
          rw [natv.out ot a (by omega), hx.out] at t2
          have u1 := S6.cell (i := 2) rfl (o := 1) rfl
          have y1 := S6.cell (i := 1) rfl (o := 1) rfl
          have k1 := S6.frozen (i := 1) rfl 1
          have S7 := S6.store (i := 1) rfl 1 (.int .i64 (x : Nat))
          simp only [List.set_cons_zero, List.set_cons_succ] at S7
          have J3 := S7.intsN (i := 5) rfl hn2 hs2.out
          obtain ⟨nb2, no2, e, t3⟩ := J3.at_ b (by rw [natI_len]; omega)
          cases e
          rw [natv.out ot b (by omega), hy.out] at t3
          have u2 := S7.cell (i := 2) rfl (o := 2) rfl
          have y2 := S7.cell (i := 1) rfl (o := 2) rfl
          have k2 := S7.frozen (i := 1) rfl 2
          have S8 := S7.store (i := 1) rfl 2 (.int .i64 (y : Nat))
          simp only [List.set_cons_zero, List.set_cons_succ] at S8
          have S5 := Lib.hid S8
          clear S4 S6 S7 S8 J2 J3 hb5 hm2
          have hS := S5
          clear S5
          have S3 := hS.out.alloc_box #[.int .i64 (M.length : Nat)] 3
          (try simp only [World.size_alloc, World.size_setCell] at S3)
          have kB := S3.cell (i := 0) rfl (o := 0) rfl
          replace S3 := Lib.hid S3
          clear hS
          go_wp2_with (at_builtin; refine wpList_append_src rfl _ _ rfl Try.underlying45 hj0 hy0 hy1 hy2 rfl (by decide) _ q _ rfl (S3.out.own (i := 5) rfl) _ 1 1 [.int .i64 (M.length : Nat)] rfl (Src.one kB) (by simp [Value.oneCell']) ?c3 ?c4 ?_)
          case c3 => unfold maxLen; omega
          case c4 => omega
          intro vE wE hownE hgE hatE
          have S4 := (S3.out.own_push (i := 5) rfl (bb _) hownE hgE (by simpa using hatE)).tail
          simp only [List.set_cons_zero, List.set_cons_succ] at S4
          obtain ⟨aN, cN, rfl⟩ := own_slice hownE
          have hS := Lib.hid S4
          clear S3 S4 kB hownE hgE hatE
          have S3 := hS.out.alloc_box #[.int .i64 ((M.length : Int) + 1)] 3
          (try simp only [World.size_alloc, World.size_setCell] at S3)
          have kB := S3.cell (i := 0) rfl (o := 0) rfl
          replace S3 := Lib.hid S3
          clear hS
          go_wp2_with (at_builtin; refine wpList_append_src rfl _ _ rfl Try.underlying45 hj0 hy0 hy1 hy2 rfl (by decide) _ q _ rfl (S3.out.own (i := 6) rfl) _ 1 1 [.int .i64 ((M.length : Int) + 1)] rfl (Src.one kB) (by simp [Value.oneCell']) ?c3 ?c4 ?_)
          case c3 => unfold maxLen; omega
          case c4 => omega
          intro vE wE hownE hgE hatE
          have S4 := (S3.out.own_push (i := 6) rfl (bb _) hownE hgE (by simpa using hatE)).tail
          simp only [List.set_cons_zero, List.set_cons_succ] at S4
          obtain ⟨aN, cN, rfl⟩ := own_slice hownE
          have hS := Lib.hid S4
          clear S3 S4 kB hownE hgE hatE
          have e0 := hS.out.cell (i := 0) rfl (o := 0) rfl
          have e1 := hS.out.cell (i := 0) rfl (o := 1) rfl
          have e2 := hS.out.cell (i := 0) rfl (o := 2) rfl
          have e3 := hS.out.cell (i := 1) rfl (o := 0) rfl
          have e4 := hS.out.cell (i := 1) rfl (o := 1) rfl
          have e5 := hS.out.cell (i := 1) rfl (o := 2) rfl
          have S8 := hS.out.alloc_box #[.int .i64 zk, .int .i64 za, .int .i64 zb, .int .i64 dk, .int .i64 (x : Nat), .int .i64 (y : Nat)] 41
          (try simp only [World.size_alloc, World.size_setCell] at S8)
          have kG0 := S8.cell (i := 0) rfl (o := 0) rfl
          have kG1 := S8.cell (i := 0) rfl (o := 1) rfl
          have kG2 := S8.cell (i := 0) rfl (o := 2) rfl
          have kG3 := S8.cell (i := 0) rfl (o := 3) rfl
          have kG4 := S8.cell (i := 0) rfl (o := 4) rfl
          have kG5 := S8.cell (i := 0) rfl (o := 5) rfl
          replace S8 := Lib.hid S8
          clear hS
          go_wp2_with (at_builtin; refine wpList_append_src rfl _ _ rfl Try.underlying28 hi0 hz0 hz1 hz2 rfl (by decide) _ M.length _ rfl (S8.out.own (i := 4) rfl) _ 2 2 [.int .i64 zk, .int .i64 za, .int .i64 zb, .int .i64 dk, .int .i64 (x : Nat), .int .i64 (y : Nat)] rfl (Src.sixG kG0 kG1 kG2 kG3 kG4 kG5) (by simp [Value.oneCell']) ?c3 ?c4 ?_)
          case c3 => unfold maxLen; omega
          case c4 => omega
          intro vE wE hownE hgE hatE
          have S9 := (S8.out.own_push (i := 4) rfl (bb _) hownE hgE (by simpa using hatE)).tail
          simp only [List.set_cons_zero, List.set_cons_succ] at S9
          obtain ⟨aE, cE, rfl⟩ := own_slice hownE
          replace S9 := Lib.hid (S9.pick [3, 3, 3] rfl)
          clear S8 hownE hgE hatE kG0 kG1 kG2 kG3 kG4 kG5 e0 e1 e2 e3 e4 e5
          have hst4 := hst.out.trans (hst3.out)
          replace hst4 := Lib.hid hst4
          go_wp2_with fail
          go_roundw
          case rel =>
            refine ⟨q + 1, _, _, _, by omega, by first | rfl | simp, rfl, rfl, rfl, ?_⟩
            unfold Hid PrSp
            rw [hst4.out]
            dsimp only
            rw [List.length_append, List.length_append, flat_snoc, flat_snoc, List.append_assoc, natI_snoc, natI_snoc, show ((M.length + 1 : Nat) : Int) = (M.length : Int) + 1 by omega]
            exact S9.out
          case measure => simp [intOf]; omega
      have hn := hdn.out h56
      have hm1 : mvG (fun k => sm.getD k 0) ⟨gk, ga, gb⟩ = ⟨gk, ga, gb⟩ := by unfold mvG; rw [if_neg h4, if_neg h56]
      have hm2 : mvG (fun k => ot.getD k 0) ⟨dk, ga, gb⟩ = ⟨dk, ga, gb⟩ := by unfold mvG; rw [if_neg hn.1, if_neg hn.2]
      obtain rfl : ga = 0 := by have := hgi.out; omega
      obtain rfl : gb = 0 := by have := hgi.out; omega
      rw [hm1, hm2] at hst3
      have h5 : gk ≠ 5 := fun h => h56 (.inl h)
      have h6 : gk ≠ 6 := fun h => h56 (.inr h)
      have hst5 := Lib.hid hst3
      have S5 := S4
      clear hn hm1 hm2 h56 S4 hst3
      have hS := S5
      clear S5
      have S3 := hS.out.alloc_box #[.int .i64 (M.length : Nat)] 3
      (try simp only [World.size_alloc, World.size_setCell] at S3)
      have kB := S3.cell (i := 0) rfl (o := 0) rfl
      replace S3 := Lib.hid S3
      clear hS
      go_wp2_with (at_builtin; refine wpList_append_src rfl _ _ rfl Try.underlying45 hj0 hy0 hy1 hy2 rfl (by decide) _ q _ rfl (S3.out.own (i := 5) rfl) _ 1 1 [.int .i64 (M.length : Nat)] rfl (Src.one kB) (by simp [Value.oneCell']) ?c3 ?c4 ?_)
      case c3 => unfold maxLen; omega
      case c4 => omega
      intro vE wE hownE hgE hatE
      have S4 := (S3.out.own_push (i := 5) rfl (bb _) hownE hgE (by simpa using hatE)).tail
      simp only [List.set_cons_zero, List.set_cons_succ] at S4
      obtain ⟨aN, cN, rfl⟩ := own_slice hownE
      have hS := Lib.hid S4
      clear S3 S4 kB hownE hgE hatE
      have S3 := hS.out.alloc_box #[.int .i64 ((M.length : Int) + 1)] 3
      (try simp only [World.size_alloc, World.size_setCell] at S3)
      have kB := S3.cell (i := 0) rfl (o := 0) rfl
      replace S3 := Lib.hid S3
      clear hS
      go_wp2_with (at_builtin; refine wpList_append_src rfl _ _ rfl Try.underlying45 hj0 hy0 hy1 hy2 rfl (by decide) _ q _ rfl (S3.out.own (i := 6) rfl) _ 1 1 [.int .i64 ((M.length : Int) + 1)] rfl (Src.one kB) (by simp [Value.oneCell']) ?c3 ?c4 ?_)
      case c3 => unfold maxLen; omega
      case c4 => omega
      intro vE wE hownE hgE hatE
      have S4 := (S3.out.own_push (i := 6) rfl (bb _) hownE hgE (by simpa using hatE)).tail
      simp only [List.set_cons_zero, List.set_cons_succ] at S4
      obtain ⟨aN, cN, rfl⟩ := own_slice hownE
      have hS := Lib.hid S4
      clear S3 S4 kB hownE hgE hatE
      have e0 := hS.out.cell (i := 0) rfl (o := 0) rfl
      have e1 := hS.out.cell (i := 0) rfl (o := 1) rfl
      have e2 := hS.out.cell (i := 0) rfl (o := 2) rfl
      have e3 := hS.out.cell (i := 1) rfl (o := 0) rfl
      have e4 := hS.out.cell (i := 1) rfl (o := 1) rfl
      have e5 := hS.out.cell (i := 1) rfl (o := 2) rfl
      have S8 := hS.out.alloc_box #[.int .i64 gk, .int .i64 0, .int .i64 0, .int .i64 dk, .int .i64 0, .int .i64 0] 41
      (try simp only [World.size_alloc, World.size_setCell] at S8)
      have kG0 := S8.cell (i := 0) rfl (o := 0) rfl
      have kG1 := S8.cell (i := 0) rfl (o := 1) rfl
      have kG2 := S8.cell (i := 0) rfl (o := 2) rfl
      have kG3 := S8.cell (i := 0) rfl (o := 3) rfl
      have kG4 := S8.cell (i := 0) rfl (o := 4) rfl
      have kG5 := S8.cell (i := 0) rfl (o := 5) rfl
      replace S8 := Lib.hid S8
      clear hS
      go_wp2_with (at_builtin; refine wpList_append_src rfl _ _ rfl Try.underlying28 hi0 hz0 hz1 hz2 rfl (by decide) _ M.length _ rfl (S8.out.own (i := 4) rfl) _ 2 2 [.int .i64 gk, .int .i64 0, .int .i64 0, .int .i64 dk, .int .i64 0, .int .i64 0] rfl (Src.sixG kG0 kG1 kG2 kG3 kG4 kG5) (by simp [Value.oneCell']) ?c3 ?c4 ?_)
      case c3 => unfold maxLen; omega
      case c4 => omega
      intro vE wE hownE hgE hatE
      have S9 := (S8.out.own_push (i := 4) rfl (bb _) hownE hgE (by simpa using hatE)).tail
      simp only [List.set_cons_zero, List.set_cons_succ] at S9
      obtain ⟨aE, cE, rfl⟩ := own_slice hownE
      replace S9 := Lib.hid (S9.pick [3, 3, 3] rfl)
      clear S8 hownE hgE hatE kG0 kG1 kG2 kG3 kG4 kG5 e0 e1 e2 e3 e4 e5
      have hst4 := hst.out.trans (hst5.out)
      replace hst4 := Lib.hid hst4
      go_wp2_with fail
      go_roundw
      case rel =>
        refine ⟨q + 1, _, _, _, by omega, by first | rfl | simp, rfl, rfl, rfl, ?_⟩
        unfold Hid PrSp
        rw [hst4.out]
        dsimp only
        rw [List.length_append, List.length_append, flat_snoc, flat_snoc, List.append_assoc, natI_snoc, natI_snoc, show ((M.length + 1 : Nat) : Int) = (M.length : Int) + 1 by omega]
        exact S9.out
      case measure => simp [intOf]; omega
    · obtain rfl : q = gs.length := by omega
      have hP := pinv gs hg.out
      unfold PrSp at hS
      rw [List.take_length] at hS
      have hR : pushR gs = trimG (cutP (pushesG gs) gs.length) (needL (cutP (pushesG gs) gs.length)) := rfl
      unfold cutP at hR
      have hO : ∃ L, (pushesG gs).out.length = L := ⟨_, rfl⟩
      obtain ⟨L, hO⟩ := hO
      have hOL := hO
      generalize hse : pushesG gs = s at hS hP hR hOL
      clear hse
      obtain ⟨M, B, ot⟩ := s
      dsimp only at hOL
      subst hOL
      replace hO := Lib.hid hO
      have hPl := hP.len
      have hPn := hP.n1
      have hPt := hP.lt1 (gs.length - 1) (by omega)
      have hPa := hP.lt1
      have hPo := hP.ok
      dsimp only at hPl hPt hPo hS hR hPn hPa
      obtain ⟨A', cO2, rfl, hM⟩ := gt_own (hS.out.own (i := 0) rfl) (gt_small hPo (by omega) (by omega))
      have hcap := own_cap (hS.out.own (i := 0) rfl)
      obtain ⟨mb, mo, rfl, -, -, -⟩ := hM.at_ 0 (by omega)
      obtain ⟨aY, cY, rfl⟩ := own_slice (hS.out.own (i := 1) rfl)
      obtain ⟨aN', cN', rfl⟩ := own_slice (hS.out.own (i := 2) rfl)
      by_cases hbig : M.length ≤ 200
      · have hd : decide ((pushesG gs).out.length ≤ 200) = true := by rw [hO.out]; exact decide_eq_true hbig
        replace hd := Lib.hid hd
        have hbi : ¬ (200 : Int) < M.length := by omega
        obtain ⟨m, hm⟩ : ∃ m, gs.length - 1 = m := ⟨_, rfl⟩
        obtain ⟨x, hx⟩ : ∃ x, B.getD (gs.length - 1) 0 = x := ⟨_, rfl⟩
        have hI1 := hS.out.intsN (i := 1) rfl hPn (fun y hy => by
          obtain ⟨i, hi, rfl⟩ := List.getElem_of_mem hy
          have := hPa i (by omega)
          rw [List.getD_eq_getElem?_getD, List.getElem?_eq_getElem hi] at this
          dsimp only [Option.getD_some] at this
          omega)
        obtain ⟨yb, yo, e, t0⟩ := hI1.at_ (gs.length - 1) (by rw [natI_len]; omega)
        cases e
        have hv2 : (natI B)[gs.length - 1]'(by rw [natI_len]; omega) = ((B.getD (gs.length - 1) 0 : Nat) : Int) := by
          rw [List.getD_eq_getElem?_getD, List.getElem?_eq_getElem (show gs.length - 1 < B.length by omega)]
          simp [natI]
        rw [hv2, hx, hm] at t0
        rw [hx] at hPt hR
        have hmi : (m : Int) < gs.length := by omega
        have hw1 : IntKind.i64.wrap ((gs.length : Int) - 1) = (m : Int) := by rw [show (gs.length : Int) - 1 = m by omega]; exact IntWalk.i64_in _ (by omega)
        have hw2 : IntKind.i64.wrap ((x : Int) + 1) = ((x + 1 : Nat) : Int) := by rw [show (x : Int) + 1 = ((x + 1 : Nat) : Int) by omega]; exact IntWalk.i64_in _ (by omega)
        have hxc : (x : Int) + 1 ≤ cO2 := by omega
        have hx0 : (0 : Int) ≤ (x : Int) + 1 := by omega
        have htl : (M.take (x + 1)).length = x + 1 := by rw [List.length_take]; omega
        have htr := l6Trim_any (some ⟨mb, mo, none⟩) cO2 (M.take (x + 1)) wr (hM.take (x + 1)) (hPo.take _) (by omega) (by omega) (by omega)
        rw [htl, ← hR] at htr
        clear hR
        generalize hRR : pushR gs = R at htr
        replace hRR := Lib.hid hRR
        have S3 := Lib.hid (Sp.of_below hS.out.below)
        replace htr := Lib.hid htr
        replace hm := Lib.hid hm
        clear hP hPt hPo hPa hM htl hS hI1 hv2
        go_wp2_with fail
        refine htr.out.mono ?_
        rintro e w2 ⟨v, rfl, S4⟩
        have S5 := Lib.hid (S3.out.seq S4)
        clear htr S3 S4
        go_wp2_with fail
        go_ret2
        rw [hd.out, hRR.out]
        exact GOut.yes S5.out
      · have hd : decide ((pushesG gs).out.length ≤ 200) = false := by rw [hO.out]; exact decide_eq_false hbig
        replace hd := Lib.hid hd
        have hbi : (200 : Int) < M.length := by omega
        have S3 := Lib.hid ((Sp.of_below hS.out.below).own_made 41 3)
        clear hP hPt hPo hPa hM hS hR
        go_wp2_with fail
        go_ret2
        rw [hd.out]
        exact ⟨_, rfl, S3.out⟩
    end Go.Proofs.Ytkhopkonddgicaa

/- Plain facts: the dual circuit, pushed negations, how small a folded circuit is. -/
namespace Go.Proofs.Ytkhopkonddgicaa

/-- The dual of a gate, of a circuit. -/
def dualG (g : Gt) : Gt := ⟨dualK g.k, g.a, g.b⟩
def dualC (gs : List Gt) : List Gt := gs.map dualG
theorem dualC_len (gs : List Gt) : (dualC gs).length = gs.length := by simp [dualC]
theorem dual_gt {vars : Int} {i : Nat} {g : Gt} (h : gtB vars i g = true) : gtB vars i (dualG g) = true := by
  rw [gtB_iff] at h ⊢
  unfold dualG dualK
  dsimp only
  by_cases h5 : g.k = 5
  · rw [if_pos h5]; omega
  by_cases h6 : g.k = 6
  · rw [if_neg h5, if_pos h6]; omega
  by_cases h2 : g.k = 2
  · rw [if_neg h5, if_neg h6, if_pos h2]; omega
  by_cases h3 : g.k = 3
  · rw [if_neg h5, if_neg h6, if_neg h2, if_pos h3]; omega
  rw [if_neg h5, if_neg h6, if_neg h2, if_neg h3]; omega
theorem dual_circ {vars : Int} {gs : List Gt} (h : circB vars gs = true) : circB vars (dualC gs) = true := by
  obtain ⟨h0, h1, hp, hl, hg⟩ := circ_vars h
  refine circ_make h0 h1 (by rw [dualC_len]; exact hp) (by rw [dualC_len]; exact hl) fun i hi => ?_
  rw [dualC_len] at hi
  have : (dualC gs)[i]'(by rw [dualC_len]; exact hi) = dualG gs[i] := by simp [dualC]
  rw [this]
  exact dual_gt (hg i hi)
theorem dual_vals {vars : Int} {gs : List Gt} (hg : OkG vars gs) (hd : OkG vars (dualC gs)) {b b' : Nat} (hbit : ∀ v : Int, 1 ≤ v → v ≤ vars → bitG b' v = !bitG b v) : ∀ m i, i < m → i < gs.length → gval b' (dualC gs) i = !gval b gs i := by
  intro m
  induction m with
  | zero => intro i h; omega
  | succ m ih =>
    intro i _ hi
    have hi2 : i < (dualC gs).length := by rw [dualC_len]; exact hi
    have hgi : (dualC gs)[i] = dualG gs[i] := by simp [dualC]
    rw [hd.val b' hi2, hg.val b hi, hgi]
    have hk := gtB_iff.1 (hg i hi)
    have hins := ins_lt (hg i hi)
    generalize gs[i] = g at hk hins
    have ihk : ∀ k ∈ insG g, gval b' (dualC gs) k = !gval b gs k := fun k hkm => by
      have := hins k hkm
      exact ih k (by omega) (by omega)
    by_cases h1 : g.k = 1
    · have h2 := hbit g.a (by omega) (by omega)
      simp [gv, dualG, dualK, h1, h2]
    by_cases h4 : g.k = 4
    · unfold insG at ihk
      rw [if_pos h4] at ihk
      have := ihk g.a.toNat (by simp)
      simp [gv, dualG, dualK, h4, this]
    have hk2 : g.k = 2 ∨ g.k = 3 ∨ g.k = 5 ∨ g.k = 6 := by omega
    unfold insG at ihk
    rcases hk2 with h | h | h | h
    · simp [gv, dualG, dualK, h]
    · simp [gv, dualG, dualK, h]
    · simp only [h] at ihk
      have e1 := ihk g.a.toNat (by simp)
      have e2 := ihk g.b.toNat (by simp)
      simp [gv, dualG, dualK, h, e1, e2]
    · simp only [h] at ihk
      have e1 := ihk g.a.toNat (by simp)
      have e2 := ihk g.b.toNat (by simp)
      simp [gv, dualG, dualK, h, e1, e2]
theorem bit_flip {n b : Nat} (hb : b < 2 ^ n) {v : Int} (h1 : 1 ≤ v) (h2 : v ≤ n) : bitG (2 ^ n - 1 - b) v = !bitG b v := by
  unfold bitG
  have h3 : (v - 1).toNat < n := by omega
  have h4 : (v - 1).toNat < n := by omega
  rw [show 2 ^ n - 1 - b = 2 ^ n - (b + 1) by omega, Nat.testBit_two_pow_sub_succ hb, decide_eq_true h4, Bool.true_and]
theorem dual_cval {n : Nat} {gs : List Gt} (h : circB n gs = true) {b : Nat} (hb : b < 2 ^ n) : cval (dualC gs) (2 ^ n - 1 - b) = !cval gs b := by
  have h2 := dual_circ h
  obtain ⟨-, -, hp, -, hg⟩ := circ_vars h
  obtain ⟨-, -, -, -, hd⟩ := circ_vars h2
  unfold cval
  rw [dualC_len]
  exact dual_vals hg hd (fun v h1 h2 => bit_flip hb h1 h2) gs.length (gs.length - 1) (by omega) (by omega)
theorem cnt_rev {P Q : Nat → Bool} {N : Nat} (h : ∀ b, b < N → P (N - 1 - b) = Q b) : cntP P N = cntP Q N := by
  have hr : (List.range N).reverse = (List.range N).map fun i => N - 1 - i := by
    apply List.ext_getElem
    · simp
    · intro i h1 h2
      simp at h1 h2
      simp
  unfold cntP
  rw [← List.countP_eq_length_filter, ← List.countP_eq_length_filter, ← List.countP_reverse, hr, List.countP_map]
  exact List.countP_congr fun b hb => by
    have := h b (List.mem_range.1 hb)
    simp only [Function.comp]
    rw [this]
theorem dual_count {n : Nat} {gs : List Gt} (h : circB n gs = true) : cntP (cval gs) (2 ^ n) + cntP (cval (dualC gs)) (2 ^ n) = 2 ^ n := by
  rw [cnt_rev (P := cval (dualC gs)) (Q := fun b => !cval gs b) (fun b hb => dual_cval h hb), Nat.add_comm]
  exact cnt_not _ _

/-- Negations of variables alone. -/
def NotV (gs : List Gt) : Prop := ∀ i (h : i < gs.length), gs[i].k = 4 → ∃ j, gs[i].a = (j : Nat) ∧ j < i ∧ (gs.getD j ⟨0, 0, 0⟩).k = 1
theorem NotV.take {gs : List Gt} (h : NotV gs) (n : Nat) : NotV (gs.take n) := by
  intro i hi hk
  rw [List.length_take] at hi
  rw [List.getElem_take] at hk ⊢
  obtain ⟨j, h1, h2, h3⟩ := h i (by omega) hk
  refine ⟨j, h1, h2, ?_⟩
  rw [List.getD_eq_getElem?_getD, List.getElem?_take_of_lt (by omega), ← List.getD_eq_getElem?_getD]
  exact h3
theorem NotV.snoc {gs : List Gt} {g : Gt} (h : NotV gs) (hg : g.k = 4 → ∃ j, g.a = (j : Nat) ∧ j < gs.length ∧ (gs.getD j ⟨0, 0, 0⟩).k = 1) : NotV (gs ++ [g]) := by
  intro i hi hk
  rw [List.length_append, List.length_singleton] at hi
  by_cases e : i < gs.length
  · rw [List.getElem_append_left e] at hk ⊢
    obtain ⟨j, h1, h2, h3⟩ := h i e hk
    refine ⟨j, h1, h2, ?_⟩
    rw [List.getD_eq_getElem?_getD, List.getElem?_append_left (by omega), ← List.getD_eq_getElem?_getD]
    exact h3
  · obtain rfl : i = gs.length := by omega
    rw [List.getElem_concat_length rfl] at hk ⊢
    obtain ⟨j, h1, h2, h3⟩ := hg hk
    refine ⟨j, h1, h2, ?_⟩
    rw [List.getD_eq_getElem?_getD, List.getElem?_append_left h2, ← List.getD_eq_getElem?_getD]
    exact h3
theorem push_notV {vars : Int} : ∀ (gs : List Gt), OkG vars gs → NotV (pushesG gs).out := by
  intro gs
  induction gs using snoc_ind with
  | h0 => intro _ i hi; exact absurd hi (by simp [pushesG])
  | h1 gs g ih =>
    intro h
    have h1 : OkG vars gs := by
      have := h.take gs.length
      rwa [List.take_left] at this
    rw [pushes_snoc]
    have hN := ih h1
    generalize pushesG gs = s at hN
    unfold pushG
    by_cases h4 : g.k = 4
    · rw [if_pos h4]; exact hN
    rw [if_neg h4]
    have hA : NotV (s.out ++ [mvG (fun k => s.same.getD k 0) g]) := hN.snoc fun e => absurd (by rw [mv_k] at e; exact e) h4
    by_cases h1k : g.k = 1
    · rw [if_pos h1k]
      refine hA.snoc fun _ => ⟨s.out.length, rfl, by simp, ?_⟩
      rw [List.getD_eq_getElem?_getD, List.getElem?_concat_length]
      show (mvG (fun k => s.same.getD k 0) g).k = 1
      rw [mv_k]; exact h1k
    · rw [if_neg h1k]
      refine hA.snoc fun e => ?_
      rw [mv_k] at e
      dsimp only at e
      unfold dualK at e
      by_cases h5 : g.k = 5
      · rw [if_pos h5] at e; omega
      by_cases h6 : g.k = 6
      · rw [if_neg h5, if_pos h6] at e; omega
      by_cases h2 : g.k = 2
      · rw [if_neg h5, if_neg h6, if_pos h2] at e; omega
      by_cases h3 : g.k = 3
      · rw [if_neg h5, if_neg h6, if_neg h2, if_pos h3] at e; omega
      rw [if_neg h5, if_neg h6, if_neg h2, if_neg h3] at e
      exact absurd e h4
theorem trim_notV {vars : Int} {gs : List Gt} (hg : OkG vars gs) (hp : 0 < gs.length) (h : NotV gs) : NotV (trimG gs (needL gs)) := by
  intro j hj hk
  have hN := (need_needs hg hp).1
  have hj' : j < (needL gs).length := by rw [trim_len] at hj; exact hj
  have hm := List.getElem_mem hj'
  have hlt := hN.lt _ hm
  have hd : gs.getD (needL gs)[j] ⟨0, 0, 0⟩ = gs[(needL gs)[j]] := by rw [List.getD_eq_getElem?_getD, List.getElem?_eq_getElem hlt]; rfl
  have hins := hN.ins _ hm
  rw [trim_get hj hj', hd] at hk ⊢
  rw [hd] at hins
  rw [mv_k] at hk
  obtain ⟨i, h1, h2, h3⟩ := h _ hlt hk
  have hin : i ∈ needL gs := hins i (by unfold insG; rw [if_pos hk, h1]; simp)
  have hix := hN.idx hj' hin h2
  refine ⟨(needL gs).idxOf i, ?_, hix, ?_⟩
  · unfold mvG; rw [if_pos hk, h1]; rfl
  · have hil := List.idxOf_lt_length_of_mem hin
    have hl3 : (needL gs).idxOf i < (trimG gs (needL gs)).length := by rw [trim_len]; exact hil
    rw [List.getD_eq_getElem?_getD, List.getElem?_eq_getElem hl3]
    show ((trimG gs (needL gs))[(needL gs).idxOf i]).k = 1
    rw [trim_get hl3 hil, mv_k, List.getElem_idxOf hil]
    exact h3
theorem pushR_notV {vars : Int} {gs : List Gt} (h : circB vars gs = true) : NotV (pushR gs) := by
  obtain ⟨h0, h1, hp, hl, hg⟩ := circ_vars h
  have hP := pinv gs hg
  have hlt := hP.lt1 (gs.length - 1) (by omega)
  unfold pushR cutP
  exact trim_notV (hP.ok.take _) (by rw [List.length_take]; omega) ((push_notV gs hg).take _)

/-- The gates that a kept gate asks stem from needed gates. -/
theorem keep_get (K : List Gt) (x : Gt) : (keepG K x).1.getD (keepG K x).2 ⟨0, 0, 0⟩ = x := by
  unfold keepG
  by_cases h : x ∈ K
  · rw [if_pos h]
    have hi := List.idxOf_lt_length_of_mem h
    dsimp only
    rw [List.getD_eq_getElem?_getD, List.getElem?_eq_getElem hi]
    exact List.getElem_idxOf hi
  · rw [if_neg h]
    dsimp only
    rw [List.getD_eq_getElem?_getD, List.getElem?_concat_length]; rfl
theorem stem {vars : Int} {N : Nat → Prop} : ∀ (gs : List Gt), OkG vars gs → (∀ i, i < gs.length → N i → ∀ k ∈ insG (gs.getD i ⟨0, 0, 0⟩), N k) →
    ∀ i, i < gs.length → N i → ∀ j ∈ insG ((foldsG gs).1.getD ((foldsG gs).2.getD i 0) ⟨0, 0, 0⟩), ∃ i2, N i2 ∧ i2 < i ∧ (foldsG gs).2.getD i2 0 = j := by
  intro gs
  induction gs using snoc_ind with
  | h0 => intro _ _ i hi; exact absurd hi (by simp)
  | h1 gs g ih =>
    intro h hcl i hi hNi j hj
    have h1 : OkG vars gs := by
      have := h.take gs.length
      rwa [List.take_left] at this
    have hg : gtB vars gs.length g = true := by
      have := h gs.length (by simp)
      rwa [List.getElem_concat_length rfl] at this
    have hF := finv gs h1
    have hlt := ins_lt hg
    have hcl1 : ∀ i, i < gs.length → N i → ∀ k ∈ insG (gs.getD i ⟨0, 0, 0⟩), N k := fun i hi hn k hk => hcl i (by rw [List.length_append]; omega) hn k (by
      rw [List.getD_eq_getElem?_getD, List.getElem?_append_left hi, ← List.getD_eq_getElem?_getD]; exact hk)
    have IH := ih h1 hcl1
    have hm : gtB vars (foldsG gs).1.length (mvG (fun k => (foldsG gs).2.getD k 0) g) = true := mv_ok hg fun k hk => hF.lt k (hlt k hk)
    have hf := fold_ok hF.ok hm
    rw [folds_snoc] at hj ⊢
    have hn := hF.n
    have hFl := hF.lt
    have hins : N gs.length → ∀ k ∈ insG g, N k := fun hn k hk => hcl gs.length (by simp) hn k (by
      rw [List.getD_eq_getElem?_getD, List.getElem?_concat_length]; exact hk)
    have hzins := ins_mv (fun k => (foldsG gs).2.getD k 0) g
    have hzk := mv_k (fun k => (foldsG gs).2.getD k 0) g
    generalize hz : mvG (fun k => (foldsG gs).2.getD k 0) g = z at hm hf hj hzins hzk ⊢
    generalize foldsG gs = s at *
    obtain ⟨K, B⟩ := s
    dsimp only at *
    obtain ⟨ms, hms⟩ := hf.pre
    rw [List.length_append, List.length_singleton] at hi
    by_cases e : i < gs.length
    · rw [getD_old hn e] at hj
      have hlti := hFl i e
      rw [hms, List.getD_eq_getElem?_getD, List.getElem?_append_left hlti, ← List.getD_eq_getElem?_getD] at hj
      obtain ⟨i2, a1, a2, a3⟩ := IH i e hNi j hj
      exact ⟨i2, a1, a2, by rw [getD_old hn (by omega)]; exact a3⟩
    · obtain rfl : i = gs.length := by omega
      rw [getD_new hn] at hj
      have hinsN := hins hNi
      have fromZ : ∀ j ∈ insG z, ∃ i2, N i2 ∧ i2 < gs.length ∧ B.getD i2 0 = j := fun j hj => by
        rw [hzins] at hj
        obtain ⟨k, hk, rfl⟩ := List.mem_map.1 hj
        exact ⟨k, hinsN k hk, hlt k hk, rfl⟩
      have deep : ∀ r ∈ insG z, ∀ j ∈ insG (K.getD r ⟨0, 0, 0⟩), ∃ i2, N i2 ∧ i2 < gs.length ∧ B.getD i2 0 = j := fun r hr j hj => by
        obtain ⟨i2, a1, a2, a3⟩ := fromZ r hr
        subst a3
        obtain ⟨i3, b1, b2, b3⟩ := IH i2 a2 a1 j hj
        exact ⟨i3, b1, by omega, b3⟩
      have main : ∃ i2, N i2 ∧ i2 < gs.length ∧ B.getD i2 0 = j := by
        have keepc : ∀ x, foldG K z = keepG K x → (insG x = [] ∨ x = z) → ∃ i2, N i2 ∧ i2 < gs.length ∧ B.getD i2 0 = j := fun x he hx => by
          rw [he, keep_get] at hj
          rcases hx with hx | hx
          · rw [hx] at hj; exact absurd hj (by simp)
          · subst hx; exact fromZ j hj
        have here : ∀ r, foldG K z = (K, r) → r ∈ insG z → ∃ i2, N i2 ∧ i2 < gs.length ∧ B.getD i2 0 = j := fun r he hr => by
          rw [he] at hj
          exact deep r hr j hj
        by_cases h4 : z.k = 4
        · have hzi : insG z = [z.a.toNat] := by unfold insG; rw [if_pos h4]
          have he : foldG K z = if kindG K z.a = 2 then keepG K ⟨3, 0, 0⟩ else if kindG K z.a = 3 then keepG K ⟨2, 0, 0⟩ else if kindG K z.a = 4 then (K, (K.getD z.a.toNat ⟨0, 0, 0⟩).a.toNat) else keepG K z := by
            unfold foldG; rw [if_pos h4]
          by_cases k2 : kindG K z.a = 2
          · exact keepc ⟨3, 0, 0⟩ (by rw [he, if_pos k2]) (.inl rfl)
          rw [if_neg k2] at he
          by_cases k3 : kindG K z.a = 3
          · exact keepc ⟨2, 0, 0⟩ (by rw [he, if_pos k3]) (.inl rfl)
          rw [if_neg k3] at he
          by_cases k4 : kindG K z.a = 4
          · rw [if_pos k4] at he
            rw [he] at hj
            dsimp only at hj
            have hin : (K.getD z.a.toNat ⟨0, 0, 0⟩).a.toNat ∈ insG (K.getD z.a.toNat ⟨0, 0, 0⟩) := by
              unfold insG; unfold kindG at k4; rw [if_pos k4]; simp
            obtain ⟨i2, a1, a2, a3⟩ := deep z.a.toNat (by rw [hzi]; simp) _ hin
            rw [← a3] at hj
            obtain ⟨i3, b1, b2, b3⟩ := IH i2 a2 a1 j hj
            exact ⟨i3, b1, by omega, b3⟩
          · rw [if_neg k4] at he; exact keepc z he (.inr rfl)
        have pairc : ∀ d n, foldG K z = pairG K z d n → (z.k = 5 ∨ z.k = 6) → ∃ i2, N i2 ∧ i2 < gs.length ∧ B.getD i2 0 = j := fun d n he h5 => by
          have hzi : insG z = [z.a.toNat, z.b.toNat] := by unfold insG; rw [if_neg h4, if_pos h5]
          unfold pairG at he
          by_cases k1 : kindG K z.a = d
          · rw [if_pos k1] at he; exact here _ he (by rw [hzi]; simp)
          rw [if_neg k1] at he
          by_cases k2 : kindG K z.b = d
          · rw [if_pos k2] at he; exact here _ he (by rw [hzi]; simp)
          rw [if_neg k2] at he
          by_cases k3 : kindG K z.a = n
          · rw [if_pos k3] at he; exact here _ he (by rw [hzi]; simp)
          rw [if_neg k3] at he
          by_cases k4 : kindG K z.b = n ∨ z.a = z.b
          · rw [if_pos k4] at he; exact here _ he (by rw [hzi]; simp)
          · rw [if_neg k4] at he; exact keepc z he (.inr rfl)
        by_cases h5 : z.k = 5
        · exact pairc 3 2 (by unfold foldG; rw [if_neg h4, if_pos h5]) (.inl h5)
        by_cases h6 : z.k = 6
        · exact pairc 2 3 (by unfold foldG; rw [if_neg h4, if_neg h5, if_pos h6]) (.inr h6)
        · exact keepc z (by unfold foldG; rw [if_neg h4, if_neg h5, if_neg h6]) (.inr rfl)
      obtain ⟨i2, a1, a2, a3⟩ := main
      exact ⟨i2, a1, a2, by rw [getD_old hn a2]; exact a3⟩
theorem inj_len : ∀ {l l' : List Nat} {φ : Nat → Nat}, l.Nodup → (∀ x ∈ l, ∃ y ∈ l', φ y = x) → l.length ≤ l'.length := by
  intro l
  induction l with
  | nil => intro l' _ _ _; exact Nat.zero_le _
  | cons x l ih =>
    intro l' φ hn h
    rw [List.nodup_cons] at hn
    obtain ⟨y, hy, he⟩ := h x (by simp)
    have h2 := ih (l' := l'.filter fun z => decide (φ z ≠ x)) (φ := φ) hn.2 (fun z hz => by
      obtain ⟨u, hu, he2⟩ := h z (by simp [hz])
      refine ⟨u, List.mem_filter.2 ⟨hu, ?_⟩, he2⟩
      rw [decide_eq_true_eq, he2]
      rintro rfl
      exact hn.1 hz)
    have h3 : (l'.filter fun z => decide (φ z ≠ x)).length < l'.length := by
      rw [List.length_filter_lt_length_iff_exists]
      exact ⟨y, hy, by simp [he]⟩
    rw [List.length_cons]
    omega
/-- A folded circuit is not greater than a trimmed one. -/
theorem fold_len {vars : Int} {gs : List Gt} (h : circB vars gs = true) : (foldR gs).length ≤ (trimG gs (needL gs)).length := by
  obtain ⟨h0, h1, hp, hl, hg⟩ := circ_vars h
  have hF := finv gs hg
  have hN := need_needs hg hp
  have hlast := hF.lt (gs.length - 1) (by omega)
  have hst := stem (N := fun i => i ∈ needL gs) gs hg (fun i hi hn k hk => hN.1.ins i hn k hk)
  unfold foldR
  rw [trim_len, trim_len]
  unfold cutK
  generalize foldsG gs = s at hF hlast hst
  obtain ⟨K, B⟩ := s
  dsimp only at hlast hst ⊢
  have hok : OkG vars K := hF.ok
  obtain ⟨x, hx⟩ : ∃ x, B.getD (gs.length - 1) 0 = x := ⟨_, rfl⟩
  rw [hx] at hlast ⊢
  have hK : OkG vars (K.take (x + 1)) := hok.take _
  have hKl : (K.take (x + 1)).length = x + 1 := by rw [List.length_take]; omega
  have hKp : 0 < (K.take (x + 1)).length := by omega
  have hM := (need_needs hK hKp).1
  have hwhy := need_why hK hKp
  have hget : ∀ i, i < x + 1 → (K.take (x + 1)).getD i ⟨0, 0, 0⟩ = K.getD i ⟨0, 0, 0⟩ := fun i hi => by
    rw [List.getD_eq_getElem?_getD, List.getElem?_take_of_lt hi, ← List.getD_eq_getElem?_getD]
  have hn1 : gs.length - 1 ∈ needL gs := List.mem_of_getLast? hN.2
  have key : ∀ d j, x - j = d → j ∈ needL (K.take (x + 1)) → ∃ i ∈ needL gs, B.getD i 0 = j := by
    intro d
    induction d using Nat.strongRecOn with
    | _ d IH =>
      intro j hd hj
      have hjl := hM.lt j hj
      rcases hwhy j hj with e | ⟨i, hi, hin⟩
      · rw [hKl] at e
        exact ⟨gs.length - 1, hn1, by rw [hx]; omega⟩
      · have hil := hM.lt i hi
        have hil2 : i < (K.take (x + 1)).length := hil
        have hji : j < i := by
          have hd2 : (K.take (x + 1)).getD i ⟨0, 0, 0⟩ = (K.take (x + 1))[i] := by rw [List.getD_eq_getElem?_getD, List.getElem?_eq_getElem hil2]; rfl
          rw [hd2] at hin
          exact ins_lt (hK i hil2) j hin
        obtain ⟨i2, hi2, he⟩ := IH (x - i) (by omega) i rfl hi
        rw [hget i (by omega), ← he] at hin
        have hi2l := hN.1.lt i2 hi2
        obtain ⟨i3, a1, -, a3⟩ := hst i2 hi2l hi2 j hin
        exact ⟨i3, a1, a3⟩
  exact inj_len (hM.asc.imp (fun h => Nat.ne_of_lt h)) (fun j hj => key _ j rfl hj)
end Go.Proofs.Ytkhopkonddgicaa
