/- Contracts: how many clauses of each width a closure has, in the reference. -/
import Derived.Test.YtebpknekaljgnaaNwY
import Derived.Test.YtebpknekaljgnaaHTailB
import Derived.Deep.DeepCutAuto
namespace Go.Proofs.Ytebpknekaljgnaa
open Go.RowKit

/-- Behind the making of the row. -/
def WP (w : World) (F0 : List (List Int)) (width : Int) (b n : Nat) (sv : Value) (ks : List (Value × List Int)) (wr : World) : Prop :=
  ∃ Kp X, Sp w wr (Arr b (profB n []) :: Cls sv ks :: Pool Kp :: X) ∧ (∀ q ∈ ks, q ∈ Kp) ∧ (ks.map Prod.snd).Nodup ∧ (∀ c, c ∈ ks.map Prod.snd ↔ ∃ r, inR F0 width r c) ∧ ∀ c ∈ ks.map Prod.snd, Good c ∧ (c.length : Int) ≤ width

def WK (w : World) (b n : Nat) (sv : Value) (ks : List (Value × List Int)) (k : Nat) (wr : World) : Prop :=
  ∃ Kp X, Sp w wr (Arr b (profB n ((ks.take k).map Prod.snd)) :: Cls sv ks :: Pool Kp :: X) ∧ ∀ q ∈ ks, q ∈ Kp
theorem prof_is {F0 : List (List Int)} {width : Int} {n : Nat} {L : List (List Int)} (hn : (n : Int) = width + 1) (hn1 : 1 ≤ n) (hn7 : n ≤ 7) (h1 : L.Nodup) (h2 : ∀ c, c ∈ L ↔ ∃ r, inR F0 width r c) : ProfIs true F0 width (profB n L) :=
  ⟨fun h => (by cases h), fun _ => ⟨L, h1, h2, by rw [show width.toNat + 1 = n by omega]⟩, by rw [profB_len]; omega⟩

set_option maxRecDepth 100000 in
set_option maxHeartbeats 8000000 in
theorem specProfile_any (vars width : Int) (v : Value) (F0 : List (List Int)) (F : List Nat) (w : World) (hx : (Ty.slice Ty.int).row false w v F0 F) :
    Calls Try.prog 21 #[.agg #[.int .i64 vars, v], .int .i64 width] w (ProfPost (narB vars F0 && inB width 0 6) F0 width w) := by
  obtain ⟨a, cp, rfl, _, _⟩ := Ty.row_len hx
  have S0 := (Sp.start w).alloc_box #[.int .i64 vars, .slice a F0.length cp] 29
  replace S0 := Lib.hid S0
  have hxr := Lib.hid hx
  cases hq1 : narB vars F0
  · go_enter Try.func21, Try.ntmps21
    go_wp2_with fail
    refine (l10Good_any vars _ F0 F _ (Ty.row_below hxr.out S0.out.below (Ty.row_lt hxr.out))).mono ?_
    rw [hq1]
    rintro e w1 ⟨rfl, hb1⟩
    have S1 := Lib.hid (S0.out.grow hb1)
    go_wp2_with fail
    have S2 := S1.out.grow (bal (bb _) (.cells #[] 3))
    have hB := S2.below
    clear S2
    go_ret2
    exact ⟨_, [], [], rfl, Ty.row_nil _ _ _ _ _ (by decide), by simp, by simp, hB, ⟨fun _ => rfl, fun h => (by cases h), by simp⟩⟩
  cases hq2 : inB width 0 6
  · go_enter Try.func21, Try.ntmps21
    go_wp2_with fail
    refine (l10Good_any vars _ F0 F _ (Ty.row_below hxr.out S0.out.below (Ty.row_lt hxr.out))).mono ?_
    rw [hq1]
    rintro e w1 ⟨rfl, hb1⟩
    have S1 := Lib.hid (S0.out.grow hb1)
    go_wp2_with (go_at_call 28; refine (l10Width_any _ _).mono ?_; rw [hq2]; rintro e w2 ⟨rfl, rfl⟩)
    have S2 := S1.out.grow (bal (bb _) (.cells #[] 3))
    have hB := S2.below
    clear S2
    go_ret2
    exact ⟨_, [], [], rfl, Ty.row_nil _ _ _ _ _ (by decide), by simp, by simp, hB, ⟨fun _ => rfl, fun h => (by cases h), by simp⟩⟩
  have hw6 := inB_true.1 hq2
  obtain ⟨hG, h60⟩ := nar_good hq1
  replace hG := Lib.hid hG
  obtain ⟨n, hn⟩ : ∃ n : Nat, (n : Int) = width + 1 := ⟨(width + 1).toNat, by omega⟩
  have hn7 : n ≤ 7 := by omega
  have hn1 : 1 ≤ n := by omega
  have hwr : IntKind.i64.wrap (width + 1) = (n : Int) := by rw [IntWalk.i64_in _ (by omega)]; omega
  replace hn := Lib.hid hn
  go_enter Try.func21, Try.ntmps21
  go_wp2_with fail
  refine (l10Good_any vars _ F0 F _ (Ty.row_below hxr.out S0.out.below (Ty.row_lt hxr.out))).mono ?_
  rw [hq1]
  rintro e w1 ⟨rfl, hb1⟩
  have S1 := S0.out.grow hb1
  have c0 := S1.cell (i := 0) rfl (o := 0) rfl
  have d1 := S1.cell (i := 0) rfl (o := 1) rfl
  replace S1 := Lib.hid S1
  clear S0 hb1 hx
  go_wp2_with (go_at_call 28; refine (l10Width_any _ _).mono ?_; rw [hq2]; rintro e w2 ⟨rfl, rfl⟩)
  go_upto_region 3 with fail
  go_cut [6, 7] (fun s6 s7 wx => ∃ (b : Nat) (sa : Option Addr) (sc : Nat) (ks : List (Value × List Int)), s6 = .slice (some ⟨b, 0, none⟩) n n ∧ s7 = .slice sa ks.length sc ∧ Hid (WP w F0 width b n (.slice sa ks.length sc) ks wx))
  case first =>
    refine wp_region_held_lit (S := (fun w' => w'.cell? ⟨w.heap.size, 0, none⟩ = some (.int .i64 vars) ∧ w'.cell? ⟨w.heap.size, 1, none⟩ = some (.slice a F0.length cp))) 9 [false, false, false, false, false, false, false, false, false] (by kernel_rfl) (by kernel_rfl) (by kernel_rfl) ?_ ?_
    · exact ⟨c0, d1⟩
    intro hSc
    (refine wpAnyH_take (i := 0) (v := ?_) rfl (by kernel_rfl) (by kernel_rfl) (by kernel_rfl) (fun _ _ _ h => h) (Or.inl ⟨by rfl, ?_⟩) (by assumption) ?_; rotate_left; (focus (intro w hSw; (try dsimp only at hSw); go_simp; (try with_reducible rfl); done)); (try simp only [put_rules]))
    (refine wpAnyH_take (i := 1) (v := ?_) rfl (by kernel_rfl) (by kernel_rfl) (by kernel_rfl) (fun _ _ _ h => h) (Or.inl ⟨by rfl, ?_⟩) (by assumption) ?_; rotate_left; (focus (intro w hSw; (try dsimp only at hSw); go_simp; (try with_reducible rfl); done)); (try simp only [put_rules]))
    (refine wpAnyH_take (i := 3) (v := ?_) rfl (by kernel_rfl) (by kernel_rfl) (by kernel_rfl) (fun _ _ _ h => h) (Or.inl ⟨by rfl, ?_⟩) (by assumption) ?_; rotate_left; (focus (intro w hSw; (try dsimp only at hSw); go_simp; (try with_reducible rfl); done)); (try simp only [put_rules]))
    (refine wpAnyH_take (i := 4) (v := ?_) rfl (by kernel_rfl) (by kernel_rfl) (by kernel_rfl) (fun _ _ _ h => h) (Or.inl ⟨by rfl, ?_⟩) (by assumption) ?_; rotate_left; (focus (intro w hSw; (try dsimp only at hSw); go_simp; (try with_reducible rfl); done)); (try simp only [put_rules]))
    (refine wpAnyH_ready (rs := [2, 5]) (by kernel_rfl) (by simp) ?_; refine AllReadyH.cons rfl (fun K hK => ?_) (AllReadyH.cons rfl (fun K hK => ?_) AllReadyH.nil))
    · rw [if_pos (by kernel_rfl)]
      refine wp_make_ints _ _ rfl n rfl rfl (by omega) ?_
      have S2 := S1.out.drew.alloc_box ((List.replicate n (0 : Int)).map (Value.int .i64)).toArray 3
      have e0 := S2.cell (i := 1) rfl (o := 0) rfl
      have e1 := S2.cell (i := 1) rfl (o := 1) rfl
      generalize hW : World.alloc _ _ = W at *
      clear hW
      replace S2 := Lib.hid S2
      clear S1 hSc c0 d1
      refine hK.out _ _ ⟨e0, e1⟩ (fun hSd => ?_)
      clear hK
      (try simp only [put_rules])
      (refine wpAnyH_ready (rs := [5]) (by kernel_rfl) (by simp) ?_; refine AllReadyH.cons rfl (fun K hK => ?_) AllReadyH.nil)
      go_simp
      go_at_call 31
      refine (l10Closure_any vars width _ F0 F _ (Ty.row_below hxr.out S2.out.below (Ty.row_lt hxr.out)) hG.out hw6.1 hw6.2 (by omega)).mono ?_
      rintro e w3 ⟨lv, rv, av, bv, pv, sv, kl, ks, Kp, R, A, B, C, rfl, T3, hClo, hAsc, hsame, hml, hms⟩
      obtain ⟨la, lc, rfl, -, -⟩ := own_src (T3.own (i := 0) rfl)
      obtain ⟨ra, rc, rfl, -, -⟩ := own_src (T3.own (i := 1) rfl)
      obtain ⟨aa, ac, rfl, -, -⟩ := own_src (T3.own (i := 2) rfl)
      obtain ⟨ba, bc, rfl, -, -⟩ := own_src (T3.own (i := 3) rfl)
      obtain ⟨pa, pc, rfl, -, -⟩ := own_src (T3.own (i := 4) rfl)
      obtain ⟨sa, sc, rfl, -, -⟩ := own_src (T3.own (i := 5) rfl)
      have hW1 := Lib.hid hms
      have hW2 := Lib.hid hAsc.nodup
      have hW3 : Hid (∀ c, c ∈ ks.map Prod.snd ↔ ∃ r, inR F0 width r c) := fun c => (hsame c).trans hClo.mem
      have hW4 : Hid (∀ c ∈ ks.map Prod.snd, Good c ∧ (c.length : Int) ≤ width) := fun c hc => hClo.good hG.out c ((hsame c).1 hc)
      have fx := fun w => work_field5 la ra aa ba pa sa kl.length R.length A.length B.length C.length ks.length lc rc ac bc pc sc w
      have S3 := Lib.hid (((S2.out.seq T3).bring (i := 6) rfl).bring (i := 6) rfl |>.bring (i := 7) rfl)
      have g0 := S3.out.cell (i := 8) rfl (o := 0) rfl
      have g1 := S3.out.cell (i := 8) rfl (o := 1) rfl
      clear T3 S2 hClo hAsc hsame hml hms
      go_wp2_with fail
      refine hK.out _ _ ⟨g0, g1⟩ (fun hSe => ?_)
      clear hK hSd
      (try simp only [put_rules])
      (refine wpAnyH_take (i := 6) (v := ?_) rfl (by kernel_rfl) (by kernel_rfl) (by kernel_rfl) (fun _ _ _ h => h) (Or.inl ⟨by rfl, ?_⟩) (by assumption) ?_; rotate_left; (focus (intro w hSw; (try dsimp only at hSw); go_simp; (try with_reducible rfl); done)); (try simp only [put_rules]))
      (refine wpAnyH_take (i := 7) (v := ?_) rfl (by kernel_rfl) (by kernel_rfl) (by kernel_rfl) (fun _ _ _ h => h) (Or.inl ⟨by rfl, ?_⟩) (by assumption) ?_; rotate_left; (focus (intro w hSw; (try dsimp only at hSw); go_simp; (try with_reducible rfl); done)); (try simp only [put_rules]))
      (refine wpAnyH_take (i := 8) (v := ?_) rfl (by kernel_rfl) (by kernel_rfl) (by kernel_rfl) (fun _ _ _ h => h) (Or.inl ⟨by rfl, ?_⟩) (by assumption) ?_; rotate_left; (focus (intro w hSw; (try dsimp only at hSw); go_simp; (try with_reducible rfl); done)); (try simp only [put_rules]))
      (refine wpAnyH_done (by kernel_rfl) ?_ _)
      go_wp2_with fail
      go_meet
      exact ⟨_, sa, sc, ks, rfl, rfl, _, _, by rw [profB_nil]; exact S3.out, hW1.out, hW2.out, hW3.out, hW4.out⟩
    · go_simp
      go_at_call 31
      refine (l10Closure_any vars width _ F0 F _ (Ty.row_below hxr.out S1.out.drew.below (Ty.row_lt hxr.out)) hG.out hw6.1 hw6.2 (by omega)).mono ?_
      rintro e w3 ⟨lv, rv, av, bv, pv, sv, kl, ks, Kp, R, A, B, C, rfl, T3, hClo, hAsc, hsame, hml, hms⟩
      obtain ⟨la, lc, rfl, -, -⟩ := own_src (T3.own (i := 0) rfl)
      obtain ⟨ra, rc, rfl, -, -⟩ := own_src (T3.own (i := 1) rfl)
      obtain ⟨aa, ac, rfl, -, -⟩ := own_src (T3.own (i := 2) rfl)
      obtain ⟨ba, bc, rfl, -, -⟩ := own_src (T3.own (i := 3) rfl)
      obtain ⟨pa, pc, rfl, -, -⟩ := own_src (T3.own (i := 4) rfl)
      obtain ⟨sa, sc, rfl, -, -⟩ := own_src (T3.own (i := 5) rfl)
      have hW1 := Lib.hid hms
      have hW2 := Lib.hid hAsc.nodup
      have hW3 : Hid (∀ c, c ∈ ks.map Prod.snd ↔ ∃ r, inR F0 width r c) := fun c => (hsame c).trans hClo.mem
      have hW4 : Hid (∀ c ∈ ks.map Prod.snd, Good c ∧ (c.length : Int) ≤ width) := fun c hc => hClo.good hG.out c ((hsame c).1 hc)
      have fx := fun w => work_field5 la ra aa ba pa sa kl.length R.length A.length B.length C.length ks.length lc rc ac bc pc sc w
      have S3 := S1.out.drew.seq T3
      replace S3 := Lib.hid S3
      have g0 := S3.out.cell (i := 7) rfl (o := 0) rfl
      have g1 := S3.out.cell (i := 7) rfl (o := 1) rfl
      clear T3 S1 hSc c0 d1 hClo hAsc hsame hml hms
      go_wp2_with fail
      refine hK.out _ _ ⟨g0, g1⟩ (fun hSe => ?_)
      clear hK
      (try simp only [put_rules])
      (refine wpAnyH_take (i := 6) (v := ?_) rfl (by kernel_rfl) (by kernel_rfl) (by kernel_rfl) (fun _ _ _ h => h) (Or.inl ⟨by rfl, ?_⟩) (by assumption) ?_; rotate_left; (focus (intro w hSw; (try dsimp only at hSw); go_simp; (try with_reducible rfl); done)); (try simp only [put_rules]))
      (refine wpAnyH_ready (rs := [2]) (by kernel_rfl) (by simp) ?_; refine AllReadyH.cons rfl (fun K hK => ?_) AllReadyH.nil)
      rw [if_pos (by kernel_rfl)]
      refine wp_make_ints _ _ rfl n rfl rfl (by omega) ?_
      have S4 := S3.out.alloc_box ((List.replicate n (0 : Int)).map (Value.int .i64)).toArray 3
      have e0 := S4.cell (i := 8) rfl (o := 0) rfl
      have e1 := S4.cell (i := 8) rfl (o := 1) rfl
      replace S4 := Lib.hid (((S4.bring (i := 7) rfl).bring (i := 7) rfl).bring (i := 2) rfl)
      clear S3
      refine hK.out _ _ ⟨e0, e1⟩ (fun hSf => ?_)
      clear hK
      (try simp only [put_rules])
      (refine wpAnyH_take (i := 7) (v := ?_) rfl (by kernel_rfl) (by kernel_rfl) (by kernel_rfl) (fun _ _ _ h => h) (Or.inl ⟨by rfl, ?_⟩) (by assumption) ?_; rotate_left; (focus (intro w hSw; (try dsimp only at hSw); go_simp; (try with_reducible rfl); done)); (try simp only [put_rules]))
      (refine wpAnyH_take (i := 8) (v := ?_) rfl (by kernel_rfl) (by kernel_rfl) (by kernel_rfl) (fun _ _ _ h => h) (Or.inl ⟨by rfl, ?_⟩) (by assumption) ?_; rotate_left; (focus (intro w hSw; (try dsimp only at hSw); go_simp; (try with_reducible rfl); done)); (try simp only [put_rules]))
      (refine wpAnyH_done (by kernel_rfl) ?_ _)
      go_wp2_with fail
      go_meet
      exact ⟨_, sa, sc, ks, rfl, rfl, _, _, by rw [profB_nil]; exact S4.out, hW1.out, hW2.out, hW3.out, hW4.out⟩
  case rest =>
    obtain ⟨b, sa, sc, ks, rfl, rfl, HW⟩ := hcut
    clear S1 c0 d1
    obtain ⟨Kp, X, S2, h1, h2, h3, h4⟩ := HW.out
    have HK0 : Hid (WK w b n (.slice sa ks.length sc) ks 0 _) := ⟨Kp, X, by simpa using S2, h1⟩
    have hkl : ks.length ≤ 4096 := by have := good_few h2 (fun c hc => (h4 c hc).1); rwa [List.length_map] at this
    have hP := Lib.hid (prof_is hn.out hn1 hn7 h2 h3)
    replace h4 := Lib.hid h4
    clear S2 HW h1 h2 h3
    go_wp2_with fail
    go_loopw [8] (fun i wr => ∃ k : Nat, k ≤ ks.length ∧ i = .int .i64 k ∧ Hid (WK w b n (.slice sa ks.length sc) ks k wr)) (fun i _ => ks.length - (intOf i).toNat)
    case atStart => exact ⟨0, Nat.zero_le _, rfl, HK0⟩
    case round =>
      obtain ⟨k, hk, rfl, HK⟩ := hrel
      clear HK0
      by_cases hlt : k < ks.length
      · obtain ⟨Kp, X, S, hin⟩ := HK.out
        obtain ⟨g, rfl⟩ := own_ptr (S.own (i := 1) rfl) (by omega)
        have hmem : ks[k] ∈ ks := List.getElem_mem hlt
        obtain ⟨Gk, rk⟩ := S.pool_at (i := 2) rfl (hin _ hmem)
        obtain ⟨xa, xc, ek, _, _⟩ := Ty.row_len rk
        have c0 := own_cell (j := k) (u := .slice xa ks[k].2.length xc) (S.own (i := 1) rfl) (by rw [List.getElem?_map, List.getElem?_eq_getElem hlt, ← ek]; rfl)
        obtain ⟨hg, hw⟩ := h4.out _ (List.mem_map.2 ⟨_, hmem, rfl⟩)
        have hm : ks[k].2.length < n := by have := hn.out; omega
        have c1 := S.arr_cell (i := 0) rfl (profB_get n ((ks.take k).map Prod.snd) hm)
        have f1 := S.frozen (i := 0) rfl ks[k].2.length
        have hcn := cnt_le ((ks.take k).map Prod.snd) ks[k].2.length
        rw [List.length_map, List.length_take] at hcn
        have hs := S.arr_set (i := 0) rfl ks[k].2.length (((cntB ((ks.take k).map Prod.snd) ks[k].2.length : Nat) : Int) + 1)
        have HN : Hid (WK w b n (.slice (some ⟨g, 0, none⟩) ks.length sc) ks (k + 1) (wr.setCell ⟨b, ks[k].2.length, none⟩ (.int .i64 (((cntB ((ks.take k).map Prod.snd) ks[k].2.length : Nat) : Int) + 1)) |>.drew)) := by
          refine ⟨Kp, X, ?_, hin⟩
          rw [show (ks.take (k + 1)).map Prod.snd = (ks.take k).map Prod.snd ++ [ks[k].2] by rw [List.take_succ_eq_append_getElem hlt, List.map_append]; rfl, profB_snoc hm]
          exact hs.drew
        have hcn2 : cntB ((ks.take k).map Prod.snd) ks[k].2.length ≤ 100000 := by omega
        have hmI : (ks[k].2.length : Int) < (n : Int) := by omega
        clear hs hcn S hin hmem rk ek hg hw HK
        generalize cntB ((ks.take k).map Prod.snd) ks[k].2.length = y at *
        generalize ks[k].2.length = m at *
        go_wp2_with fail
        refine wp_region_tail_lit (S := (fun w' => w'.cell? ⟨g, k, none⟩ = some (.slice xa m xc) ∧ w'.cell? ⟨b, m, none⟩ = some (.int .i64 y))) 16 [false, false, false, false, false, false, false, false, false, false, false, false, false, false, false, false, false] (by kernel_rfl) (by kernel_rfl) (by kernel_rfl) ?_ ?_
        · exact ⟨c0, c1⟩
        intro hS
        (refine walkT_take (i := 0) (v := ?_) rfl (by kernel_rfl) (by decide) (by kernel_rfl) (by kernel_rfl) (fun _ _ _ h => h) (Or.inl ⟨by rfl, ?_⟩) (by assumption) ?_; rotate_left; (focus (intro w hSw; (try dsimp only at hSw); go_simp; (try with_reducible rfl); done)); (try simp only [put_rules]))
        (refine walkT_take (i := 1) (v := ?_) rfl (by kernel_rfl) (by decide) (by kernel_rfl) (by kernel_rfl) (fun _ _ _ h => h) (Or.inl ⟨by rfl, ?_⟩) (by assumption) ?_; rotate_left; (focus (intro w hSw; (try dsimp only at hSw); go_simp; (try with_reducible rfl); done)); (try simp only [put_rules]))
        (refine walkT_take (i := 2) (v := ?_) rfl (by kernel_rfl) (by decide) (by kernel_rfl) (by kernel_rfl) (fun _ _ _ h => h) (Or.inl ⟨by rfl, ?_⟩) (by assumption) ?_; rotate_left; (focus (intro w hSw; (try dsimp only at hSw); go_simp; (try with_reducible rfl); done)); (try simp only [put_rules]))
        (refine walkT_take (i := 3) (v := ?_) rfl (by kernel_rfl) (by decide) (by kernel_rfl) (by kernel_rfl) (fun _ _ _ h => h) (Or.inl ⟨by rfl, ?_⟩) (by assumption) ?_; rotate_left; (focus (intro w hSw; (try dsimp only at hSw); go_simp; (try with_reducible rfl); done)); (try simp only [put_rules]))
        (refine walkT_take (i := 4) (v := ?_) rfl (by kernel_rfl) (by decide) (by kernel_rfl) (by kernel_rfl) (fun _ _ _ h => h) (Or.inl ⟨by rfl, ?_⟩) (by assumption) ?_; rotate_left; (focus (intro w hSw; (try dsimp only at hSw); go_simp; (try with_reducible rfl); done)); (try simp only [put_rules]))
        (refine walkT_take (i := 5) (v := ?_) rfl (by kernel_rfl) (by decide) (by kernel_rfl) (by kernel_rfl) (fun _ _ _ h => h) (Or.inl ⟨by rfl, ?_⟩) (by assumption) ?_; rotate_left; (focus (intro w hSw; (try dsimp only at hSw); go_simp; (try with_reducible rfl); done)); (try simp only [put_rules]))
        (refine walkT_take (i := 6) (v := ?_) rfl (by kernel_rfl) (by decide) (by kernel_rfl) (by kernel_rfl) (fun _ _ _ h => h) (Or.inl ⟨by rfl, ?_⟩) (by assumption) ?_; rotate_left; (focus (intro w hSw; (try dsimp only at hSw); go_simp; (try with_reducible rfl); done)); (try simp only [put_rules]))
        (refine walkT_take (i := 7) (v := ?_) rfl (by kernel_rfl) (by decide) (by kernel_rfl) (by kernel_rfl) (fun _ _ _ h => h) (Or.inl ⟨by rfl, ?_⟩) (by assumption) ?_; rotate_left; (focus (intro w hSw; (try dsimp only at hSw); go_simp; (try with_reducible rfl); done)); (try simp only [put_rules]))
        (refine walkT_take (i := 8) (v := ?_) rfl (by kernel_rfl) (by decide) (by kernel_rfl) (by kernel_rfl) (fun _ _ _ h => h) (Or.inl ⟨by rfl, ?_⟩) (by assumption) ?_; rotate_left; (focus (intro w hSw; (try dsimp only at hSw); go_simp; (try with_reducible rfl); done)); (try simp only [put_rules]))
        (refine walkT_take (i := 9) (v := ?_) rfl (by kernel_rfl) (by decide) (by kernel_rfl) (by kernel_rfl) (fun _ _ _ h => h) (Or.inl ⟨by rfl, ?_⟩) (by assumption) ?_; rotate_left; (focus (intro w hSw; (try dsimp only at hSw); go_simp; (try with_reducible rfl); done)); (try simp only [put_rules]))
        (refine walkT_take (i := 10) (v := ?_) rfl (by kernel_rfl) (by decide) (by kernel_rfl) (by kernel_rfl) (fun _ _ _ h => h) (Or.inl ⟨by rfl, ?_⟩) (by assumption) ?_; rotate_left; (focus (intro w hSw; (try dsimp only at hSw); go_simp; (try with_reducible rfl); done)); (try simp only [put_rules]))
        (refine walkT_take (i := 11) (v := ?_) rfl (by kernel_rfl) (by decide) (by kernel_rfl) (by kernel_rfl) (fun _ _ _ h => h) (Or.inl ⟨by rfl, ?_⟩) (by assumption) ?_; rotate_left; (focus (intro w hSw; (try dsimp only at hSw); go_simp; (try with_reducible rfl); done)); (try simp only [put_rules]))
        (refine walkT_take (i := 12) (v := ?_) rfl (by kernel_rfl) (by decide) (by kernel_rfl) (by kernel_rfl) (fun _ _ _ h => h) (Or.inl ⟨by rfl, ?_⟩) (by assumption) ?_; rotate_left; (focus (intro w hSw; (try dsimp only at hSw); go_simp; (try with_reducible rfl); done)); (try simp only [put_rules]))
        (refine walkT_take (i := 13) (v := ?_) rfl (by kernel_rfl) (by decide) (by kernel_rfl) (by kernel_rfl) (fun _ _ _ h => h) (Or.inl ⟨by rfl, ?_⟩) (by assumption) ?_; rotate_left; (focus (intro w hSw; (try dsimp only at hSw); go_simp; (try with_reducible rfl); done)); (try simp only [put_rules]))
        (refine walkT_take (i := 14) (v := ?_) rfl (by kernel_rfl) (by decide) (by kernel_rfl) (by kernel_rfl) (fun _ _ _ h => h) (Or.inl ⟨by rfl, ?_⟩) (by assumption) ?_; rotate_left; (focus (intro w hSw; (try dsimp only at hSw); go_simp; (try with_reducible rfl); done)); (try simp only [put_rules]))
        (refine walkT_take (i := 15) (v := ?_) rfl (by kernel_rfl) (by decide) (by kernel_rfl) (by kernel_rfl) (fun _ _ _ h => h) (Or.inl ⟨by rfl, ?_⟩) (by assumption) ?_; rotate_left; (focus (intro w hSw; (try dsimp only at hSw); go_simp; (try with_reducible rfl); done)); (try simp only [put_rules]))
        (refine walkT_done (by kernel_rfl) ?_)
        simp only [List.drop_succ_cons, List.drop_zero]
        go_wp2_with fail
        go_roundw
        case rel => exact ⟨k + 1, by omega, by go_num, HN⟩
        case measure => simp [intOf]; omega
      · obtain rfl : k = ks.length := by omega
        obtain ⟨Kp, X, S, hin⟩ := HK.out
        rw [List.take_length] at S
        obtain ⟨hr, hb⟩ := S.arr_row (i := 0) rfl (profB_i64 (by rw [List.length_map]; omega)) (fun e => by have := congrArg List.length e; rw [profB_len] at this; simp at this; omega) (by rw [profB_len]; omega)
        rw [profB_len] at hr
        have hB := S.below
        replace hr := Lib.hid hr
        clear S hin HK
        go_wp2_with fail
        go_ret2
        exact ⟨_, _, [b], rfl, hr.out, by simp, by simpa using hb, hB, hP.out⟩
end Go.Proofs.Ytebpknekaljgnaa
