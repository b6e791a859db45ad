/- Lemmas and contracts for a law, put together out of several texts: GtZB GuE. -/
import Derived.Test.YtkhopkonddgicaaMg7
import Derived.Test.YtkhopkonddgicaaMg6
import Derived.Deep.DeepCutAuto
import Derived.BigRegion
/- Contract: pushing negations. -/
namespace Go.Proofs.Ytkhopkonddgicaa
open Go.RowKit

/-- What lies in memory while negations are pushed. -/
abbrev PnSp (w : World) (ob n : Nat) (s : PSt) (sv : Value) (a1 a2 b1 b2 : Nat) (W : World) : Prop :=
  Sp w W [Box ob 28 #[sv], Own 41 3 sv s.out.length (s.out.flatMap gtEnc), Box b1 45 #[.slice (some ⟨a1, 0, none⟩) n n], Box b2 45 #[.slice (some ⟨a2, 0, none⟩) n n], Box a1 3 (numsA n (fun j => s.same.getD j 0)), Box a2 3 (numsA n (fun j => s.other.getD j 0))]

/-- What the pushed gates are cut to. -/
def cutP (s : PSt) (n : Nat) : List Gt := s.out.take (s.same.getD (n - 1) 0 + 1)
/-- The circuit with pushed negations. -/
def pushR (gs : List Gt) : List Gt := trimG (cutP (pushesG gs) gs.length) (needL (cutP (pushesG gs) gs.length))
theorem pushes_take {gs : List Gt} {q : Nat} (h : q < gs.length) : pushesG (gs.take (q + 1)) = pushG (pushesG (gs.take q)) gs[q] := by
  rw [List.take_succ_eq_append_getElem h, pushes_snoc]
theorem numsA_snoc {n q x : Nat} {l : List Nat} (h : l.length = q) : (numsA n (fun j => l.getD j 0)).setIfInBounds q (.int .i64 x) = numsA n (fun j => (l ++ [x]).getD j 0) := by
  rw [numsA_set]
  refine numsA_congr fun j _ => ?_
  by_cases e : j = q
  · subst e; rw [if_pos rfl, getD_new h]
  · rw [if_neg e]
    rcases Nat.lt_or_ge j q with h1 | h1
    · rw [getD_old h h1]
    · rw [List.getD_eq_getElem?_getD, List.getD_eq_getElem?_getD, List.getElem?_eq_none (by omega), List.getElem?_eq_none (by rw [List.length_append, List.length_singleton]; omega)]
theorem pushG_4 (s : PSt) (a b : Int) : pushG s ⟨4, a, b⟩ = ⟨s.out, s.same ++ [s.other.getD a.toNat 0], s.other ++ [s.same.getD a.toNat 0]⟩ := rfl
theorem pushG_1 (s : PSt) (a b : Int) : pushG s ⟨1, a, b⟩ = ⟨s.out ++ [mvG (fun k => s.same.getD k 0) ⟨1, a, b⟩] ++ [⟨4, (s.out.length : Nat), 0⟩], s.same ++ [s.out.length], s.other ++ [s.out.length + 1]⟩ := rfl
theorem pushG_o (s : PSt) {k a b : Int} (h1 : k ≠ 1) (h4 : k ≠ 4) : pushG s ⟨k, a, b⟩ = ⟨s.out ++ [mvG (fun k => s.same.getD k 0) ⟨k, a, b⟩] ++ [mvG (fun k => s.other.getD k 0) ⟨dualK k, a, b⟩], s.same ++ [s.out.length], s.other ++ [s.out.length + 1]⟩ := by
  unfold pushG
  dsimp only
  rw [if_neg h4, if_neg h1]
theorem chain4 {w W : World} {ps : List Asn} {N : Nat} (S : Sp w W ps) (hN : W.heap.size = N) (c1 c2 c3 c4 : Array Value) (t1 t2 t3 t4 : TypeId) :
    Sp w ((((W.alloc (.cells c1 t1)).alloc (.cells c2 t2)).alloc (.cells c3 t3)).alloc (.cells c4 t4)).drew (Box (N + 1 + 1 + 1) t4 c4 :: Box (N + 1 + 1) t3 c3 :: Box (N + 1) t2 c2 :: Box N t1 c1 :: ps) := by
  have h := ((((S.alloc_box c1 t1).alloc_box c2 t2).alloc_box c3 t3).alloc_box c4 t4).drew
  simp only [World.size_alloc, hN] at h
  exact h

set_option maxRecDepth 100000 in
set_option maxHeartbeats 16000000 in
theorem push_any (vars : Int) (A : Option Addr) (c : Nat) (gs : List Gt) (w : World) (hx : GtAt w A gs) (hcb : circB vars gs = true) :
    Calls Try.prog 17 #[.int .i64 vars, .slice A gs.length c] w (GOut w (decide ((pushesG gs).out.length ≤ 200)) (pushR gs)) := by
  obtain ⟨-, hv, hp, hl, hg⟩ := circ_vars hcb
  have hc := isCircuit_any vars A c gs w hx (by omega)
  rw [hcb] at hc
  replace hc := Lib.hid hc
  have hmk := fun W => mk_nums gs.length (by omega) (gs.length : Int) rfl W
  obtain ⟨Z, hZ⟩ : ∃ Z, numsA gs.length (fun _ => 0) = Z := ⟨_, rfl⟩
  rw [hZ] at hmk
  have hX := Lib.hid hx
  replace hg := Lib.hid hg
  clear hx
  go_enter Try.func17, Try.ntmps17
  go_wp2_with fail
  refine hc.out.mono ?_
  rintro e w1 ⟨rfl, hb1⟩
  have S1 := (Sp.of_below hb1).alloc_box #[.slice none 0 0] 28
  have hN : (w1.alloc (.cells #[.slice none 0 0] 28)).heap.size = w1.heap.size + 1 := by simp
  go_upto_region 5 with fail
  go_cut [8, 9] (fun s8 s9 wx => ∃ a1 a2 b1 b2 : Nat, s8 = .pointer (some ⟨b1, 0, none⟩) ∧ s9 = .pointer (some ⟨b2, 0, none⟩) ∧ Hid (Sp w wx [Box w1.heap.size 28 #[.slice none 0 0], Box b1 45 #[.slice (some ⟨a1, 0, none⟩) gs.length gs.length], Box b2 45 #[.slice (some ⟨a2, 0, none⟩) gs.length gs.length], Box a1 3 Z, Box a2 3 Z]))
  case first =>
    go_region
    all_goals go_wp2_with fail
    all_goals go_meet
    all_goals first
      | exact ⟨_, _, _, _, rfl, rfl, Lib.hid (Sp.pick [4, 0, 0, 0, 0] (chain4 S1 hN _ _ _ _ _ _ _ _) rfl)⟩
      | exact ⟨_, _, _, _, rfl, rfl, Lib.hid (Sp.pick [4, 0, 0, 1, 0] (chain4 S1 hN _ _ _ _ _ _ _ _) rfl)⟩
      | exact ⟨_, _, _, _, rfl, rfl, Lib.hid (Sp.pick [4, 0, 1, 0, 0] (chain4 S1 hN _ _ _ _ _ _ _ _) rfl)⟩
      | exact ⟨_, _, _, _, rfl, rfl, Lib.hid (Sp.pick [4, 0, 1, 1, 0] (chain4 S1 hN _ _ _ _ _ _ _ _) rfl)⟩
      | exact ⟨_, _, _, _, rfl, rfl, Lib.hid (Sp.pick [4, 0, 2, 0, 0] (chain4 S1 hN _ _ _ _ _ _ _ _) rfl)⟩
      | exact ⟨_, _, _, _, rfl, rfl, Lib.hid (Sp.pick [4, 0, 2, 1, 0] (chain4 S1 hN _ _ _ _ _ _ _ _) rfl)⟩
      | exact ⟨_, _, _, _, rfl, rfl, Lib.hid (Sp.pick [4, 1, 0, 0, 0] (chain4 S1 hN _ _ _ _ _ _ _ _) rfl)⟩
      | exact ⟨_, _, _, _, rfl, rfl, Lib.hid (Sp.pick [4, 1, 0, 1, 0] (chain4 S1 hN _ _ _ _ _ _ _ _) rfl)⟩
      | exact ⟨_, _, _, _, rfl, rfl, Lib.hid (Sp.pick [4, 1, 1, 0, 0] (chain4 S1 hN _ _ _ _ _ _ _ _) rfl)⟩
      | exact ⟨_, _, _, _, rfl, rfl, Lib.hid (Sp.pick [4, 1, 1, 1, 0] (chain4 S1 hN _ _ _ _ _ _ _ _) rfl)⟩
      | exact ⟨_, _, _, _, rfl, rfl, Lib.hid (Sp.pick [4, 1, 2, 0, 0] (chain4 S1 hN _ _ _ _ _ _ _ _) rfl)⟩
      | exact ⟨_, _, _, _, rfl, rfl, Lib.hid (Sp.pick [4, 1, 2, 1, 0] (chain4 S1 hN _ _ _ _ _ _ _ _) rfl)⟩
      | exact ⟨_, _, _, _, rfl, rfl, Lib.hid (Sp.pick [4, 2, 0, 0, 0] (chain4 S1 hN _ _ _ _ _ _ _ _) rfl)⟩
      | exact ⟨_, _, _, _, rfl, rfl, Lib.hid (Sp.pick [4, 2, 0, 1, 0] (chain4 S1 hN _ _ _ _ _ _ _ _) rfl)⟩
      | exact ⟨_, _, _, _, rfl, rfl, Lib.hid (Sp.pick [4, 2, 1, 0, 0] (chain4 S1 hN _ _ _ _ _ _ _ _) rfl)⟩
      | exact ⟨_, _, _, _, rfl, rfl, Lib.hid (Sp.pick [4, 2, 1, 1, 0] (chain4 S1 hN _ _ _ _ _ _ _ _) rfl)⟩
      | exact ⟨_, _, _, _, rfl, rfl, Lib.hid (Sp.pick [4, 2, 2, 0, 0] (chain4 S1 hN _ _ _ _ _ _ _ _) rfl)⟩
      | exact ⟨_, _, _, _, rfl, rfl, Lib.hid (Sp.pick [4, 2, 2, 1, 0] (chain4 S1 hN _ _ _ _ _ _ _ _) rfl)⟩
      | exact ⟨_, _, _, _, rfl, rfl, Lib.hid (Sp.pick [4, 3, 0, 0, 0] (chain4 S1 hN _ _ _ _ _ _ _ _) rfl)⟩
      | exact ⟨_, _, _, _, rfl, rfl, Lib.hid (Sp.pick [4, 3, 0, 1, 0] (chain4 S1 hN _ _ _ _ _ _ _ _) rfl)⟩
      | exact ⟨_, _, _, _, rfl, rfl, Lib.hid (Sp.pick [4, 3, 1, 0, 0] (chain4 S1 hN _ _ _ _ _ _ _ _) rfl)⟩
      | exact ⟨_, _, _, _, rfl, rfl, Lib.hid (Sp.pick [4, 3, 1, 1, 0] (chain4 S1 hN _ _ _ _ _ _ _ _) rfl)⟩
      | exact ⟨_, _, _, _, rfl, rfl, Lib.hid (Sp.pick [4, 3, 2, 0, 0] (chain4 S1 hN _ _ _ _ _ _ _ _) rfl)⟩
      | exact ⟨_, _, _, _, rfl, rfl, Lib.hid (Sp.pick [4, 3, 2, 1, 0] (chain4 S1 hN _ _ _ _ _ _ _ _) rfl)⟩
  case rest =>
    obtain ⟨a1, a2, b1, b2, rfl, rfl, S2⟩ := hcut
    have hZ2 : Hid (numsA gs.length (fun j => (pushesG (gs.take 0)).same.getD j 0) = Z ∧ numsA gs.length (fun j => (pushesG (gs.take 0)).other.getD j 0) = Z) := by
      unfold Hid
      rw [← hZ]
      exact ⟨numsA_congr fun j _ => by simp [pushesG], numsA_congr fun j _ => by simp [pushesG]⟩
    have S3 := Lib.hid ((S2.out.own_nil 41 3).pick [1, 0, 0, 0, 0, 0] rfl)
    obtain ⟨ob, hob⟩ : ∃ ob, w1.heap.size = ob := ⟨_, rfl⟩
    rw [hob] at S3 ⊢
    have eg2 : Enter1 52 := enters_of Try.func52 (by kernel_rfl) rfl
    have eg3 : Enter1 54 := enters_of Try.func54 (by kernel_rfl) rfl
    replace eg2 := Lib.hid eg2
    replace eg3 := Lib.hid eg3
    clear S1 S2 hN hob hc hmk hZ hb1
    go_wp2_with fail
    go_loopw [25] (fun i wr => ∃ (q : Nat) (sv : Value), q ≤ gs.length ∧ i = .int .i64 q ∧ Hid (PnSp w ob gs.length (pushesG (gs.take q)) sv a1 a2 b1 b2 wr)) (fun i _ => gs.length - (intOf i).toNat)
    case atStart =>
      refine ⟨0, .slice none 0 0, Nat.zero_le _, rfl, ?_⟩
      unfold Hid PnSp
      rw [hZ2.out.1, hZ2.out.2]
      exact S3.out
    case round =>
      obtain ⟨q, sv, hq, rfl, hS⟩ := hrel
      clear S3 hZ2
      by_cases hlt : q < gs.length
      · have hqi : (q : Int) < gs.length := by omega
        have hP := pinv (gs.take q) (hg.out.take q)
        have hst := pushes_take hlt
        have hX2 := hX.out.grow hS.out.below
        obtain ⟨bg, og, e, m0, m1, m2⟩ := hX2.at_ q hlt
        cases e
        have hgq := hg.out q hlt
        have hlt2 := ins_lt hgq
        have hgi := gtB_iff.1 hgq
        have hl2 : (gs.take q).length = q := by rw [List.length_take]; omega
        generalize pushesG (gs.take q) = s at hS hP hst
        obtain ⟨M, sm, ot⟩ := s
        generalize gs[q] = g at m0 m1 m2 hst hgq hlt2 hgi
        obtain ⟨gk, ga, gb⟩ := g
        have hn1 := hP.n1
        have hn2 := hP.n2
        have hlen := hP.len
        rw [hl2] at hn1 hn2 hlen
        dsimp only at hn1 hn2 hlen m0 m1 m2 hgi
        unfold PnSp at hS
        dsimp only at hS
        have S3 := Lib.hid (hS.out.alloc_box #[.int .i64 gk, .int .i64 ga, .int .i64 gb] 41)
        have d0 := S3.out.cell (i := 0) rfl (o := 0) rfl
        have d1 := S3.out.cell (i := 0) rfl (o := 1) rfl
        have d2 := S3.out.cell (i := 0) rfl (o := 2) rfl
        have d3 := S3.out.cell (i := 3) rfl (o := 0) rfl
        have d4 := S3.out.cell (i := 4) rfl (o := 0) rfl
        replace hgi := Lib.hid hgi
        replace hst := Lib.hid hst
        clear hP hS hX2 hgq
        by_cases h4 : gk = 4
        · subst h4
          have hins : insG ⟨4, ga, gb⟩ = [ga.toNat] := rfl
          obtain ⟨a, rfl⟩ : ∃ a : Nat, ga = a := ⟨ga.toNat, by have := hgi.out; omega⟩
          have haq : a < q := by have := hgi.out; omega
          have hai : (a : Int) < gs.length := by omega
          have t0 := S3.out.cell (i := 6) rfl (o := a) (numsA_get (by omega))
          have t1 := S3.out.cell (i := 5) rfl (o := q) (numsA_get (by omega))
          have t2 := S3.out.frozen (i := 5) rfl q
          rw [pushG_4, Int.toNat_natCast] at hst
          dsimp only at hst
          obtain ⟨x, hx⟩ : ∃ x, ot.getD a 0 = x := ⟨_, rfl⟩
          rw [hx] at hst t0
          obtain ⟨y, hy⟩ : ∃ y, sm.getD a 0 = y := ⟨_, rfl⟩
          rw [hy] at hst
          clear hins hx
          go_wp2_with fail
          go_region
          have S4 := (S3.out.store (i := 5) rfl q (.int .i64 x)).drew
          simp only [List.set_cons_zero, List.set_cons_succ] at S4
          rw [numsA_snoc hn1] at S4
          have e1 := S4.cell (i := 0) rfl (o := 1) rfl
          have e3 := S4.cell (i := 3) rfl (o := 0) rfl
          have e4 := S4.cell (i := 4) rfl (o := 0) rfl
          have t3 := S4.cell (i := 5) rfl (o := a) (numsA_get (by omega))
          rw [getD_old hn1 haq, hy] at t3
          have t4 := S4.cell (i := 6) rfl (o := q) (numsA_get (by omega))
          have t5 := S4.frozen (i := 6) rfl q
          replace S4 := Lib.hid S4
          clear S3 d0 d1 d2 d3 d4 t0 t1 t2 hy m0 m1 m2
          go_wp2_with fail
          go_region
          have S5 := (S4.out.store (i := 6) rfl q (.int .i64 y)).drew
          simp only [List.set_cons_zero, List.set_cons_succ] at S5
          rw [numsA_snoc hn2] at S5
          replace S5 := Lib.hid S5.tail
          clear S4 e1 e3 e4 t3 t4 t5
          go_wp2_with fail
          go_roundw
          case rel =>
            refine ⟨q + 1, sv, by omega, by first | rfl | simp, ?_⟩
            unfold Hid PnSp
            rw [hst.out]
            exact S5.out
          case measure => simp [intOf]; omega
        have hfa1 : ∀ k ∈ insG (⟨gk, ga, gb⟩ : Gt), k ≤ 1000000 := fun k hk => by have := hlt2 k hk; omega
        have hga0 : 0 ≤ ga := by have := hgi.out; omega
        have hgb0 : 0 ≤ gb := by have := hgi.out; omega
        have S3d := S3.out.drew
        have x3 := S3d.cell (i := 3) rfl (o := 0) rfl
        have hmv := Lib.hid (moved_any (cb := #[.pointer (some ⟨b1, 0, none⟩)]) eg2.out (fun k => sm.getD k 0) ⟨gk, ga, gb⟩ hfa1 hga0 hgb0 _ (fun k hk W hW => sameLook_any b1 a1 gs.length gs.length k ((sm.getD k 0 : Nat) : Int) (by have := hlt2 k hk; omega) W ((hW.cell (p := ⟨b1, 0, none⟩) (S3d.box (i := 3) rfl).2.1).trans x3) ((hW.cell (p := ⟨a1, k, none⟩) (S3d.box (i := 5) rfl).2.1).trans (S3d.cell (i := 5) rfl (o := k) (numsA_get (by have := hlt2 k hk; omega))))))
        have hst1 : Hid (gk = 1 → pushG ⟨M, sm, ot⟩ ⟨gk, ga, gb⟩ = ⟨M ++ [mvG (fun k => sm.getD k 0) ⟨gk, ga, gb⟩] ++ [⟨4, (M.length : Nat), 0⟩], sm ++ [M.length], ot ++ [M.length + 1]⟩) := fun e => by subst e; rfl
        have hst2 : Hid (gk ≠ 1 → pushG ⟨M, sm, ot⟩ ⟨gk, ga, gb⟩ = ⟨M ++ [mvG (fun k => sm.getD k 0) ⟨gk, ga, gb⟩] ++ [mvG (fun k => ot.getD k 0) ⟨dualK gk, ga, gb⟩], sm ++ [M.length], ot ++ [M.length + 1]⟩) := fun e => pushG_o _ e h4
        generalize mvG (fun k => sm.getD k 0) ⟨gk, ga, gb⟩ = z at hmv hst1 hst2
        replace S3 := Lib.hid S3d
        clear x3 S3d hfa1
        go_wp2_with fail
        refine wp_region_held_lit (S := (fun w' => w'.cell? ⟨b1, 0, none⟩ = some (.slice (some ⟨a1, 0, none⟩) gs.length gs.length) ∧ w'.cell? ⟨wr.heap.size, 0, none⟩ = some (.int .i64 gk) ∧ w'.cell? ⟨wr.heap.size, 1, none⟩ = some (.int .i64 ga) ∧ w'.cell? ⟨wr.heap.size, 2, none⟩ = some (.int .i64 gb))) 9 [false, false, false, false, false, false, false, false, false] (by kernel_rfl) (by kernel_rfl) (by kernel_rfl) ?_ ?_
        · exact ⟨d3, d0, d1, d2⟩
        intro hSc
        (refine wpAnyH_take (i := 0) (v := ?_) rfl (by kernel_rfl) (by kernel_rfl) (by kernel_rfl) (fun _ _ _ h => h) (Or.inl ⟨by rfl, ?_⟩) (by assumption) ?_; rotate_left; (focus (intro w hSw; (try dsimp only at hSw); go_simp; (try with_reducible rfl); done)); (try simp only [put_rules]))
        (refine wpAnyH_take (i := 1) (v := ?_) rfl (by kernel_rfl) (by kernel_rfl) (by kernel_rfl) (fun _ _ _ h => h) (Or.inl ⟨by rfl, ?_⟩) (by assumption) ?_; rotate_left; (focus (intro w hSw; (try dsimp only at hSw); go_simp; (try with_reducible rfl); done)); (try simp only [put_rules]))
        (refine wpAnyH_take (i := 2) (v := ?_) rfl (by kernel_rfl) (by kernel_rfl) (by kernel_rfl) (fun _ _ _ h => h) (Or.inl ⟨by rfl, ?_⟩) (by assumption) ?_; rotate_left; (focus (intro w hSw; (try dsimp only at hSw); go_simp; (try with_reducible rfl); done)); (try simp only [put_rules]))
        (refine wpAnyH_take (i := 3) (v := ?_) rfl (by kernel_rfl) (by kernel_rfl) (by kernel_rfl) (fun _ _ _ h => h) (Or.inl ⟨by rfl, ?_⟩) (by assumption) ?_; rotate_left; (focus (intro w hSw; (try dsimp only at hSw); go_simp; (try with_reducible rfl); done)); (try simp only [put_rules]))
        (refine wpAnyH_take (i := 4) (v := ?_) rfl (by kernel_rfl) (by kernel_rfl) (by kernel_rfl) (fun _ _ _ h => h) (Or.inl ⟨by rfl, ?_⟩) (by assumption) ?_; rotate_left; (focus (intro w hSw; (try dsimp only at hSw); go_simp; (try with_reducible rfl); done)); (try simp only [put_rules]))
        (refine wpAnyH_ready (rs := [5]) (by kernel_rfl) (by simp) ?_; refine AllReadyH.cons rfl (fun K hK => ?_) AllReadyH.nil)
        go_simp
        go_at_call 51
        refine hmv.out.mono ?_
        rintro e w2 ⟨rfl, hb2⟩
        have S4 := Lib.hid (S3.out.grow hb2)
        have hf2 := Lib.hid (addG_any ob sv M z _ (by omega) (S4.out.pick [1, 1, 0, 0, 0, 0, 0] rfl))
        clear hmv S3 hb2 d0 d1 d2 d3 d4 m0 m1 m2
        go_wp2_with fail
        refine hK.out _ _ ⟨S4.out.cell (i := 3) rfl (o := 0) rfl, S4.out.cell (i := 0) rfl (o := 0) rfl, S4.out.cell (i := 0) rfl (o := 1) rfl, S4.out.cell (i := 0) rfl (o := 2) rfl⟩ (fun hS2 => ?_)
        clear hK hSc S4
        (try simp only [put_rules])
        (refine wpAnyH_ready (rs := [6]) (by kernel_rfl) (by simp) ?_; refine AllReadyH.cons rfl (fun K hK => ?_) AllReadyH.nil)
        go_simp
        refine hf2.out.mono ?_
        rintro e w3 ⟨sv', rfl, S5⟩
        unfold AddSp at S5
        have t0 := S5.cell (i := 5) rfl (o := q) (numsA_get (by omega))
        have t1 := S5.frozen (i := 5) rfl q
        replace S5 := Lib.hid S5
        clear hf2
        go_wp2_with fail
        refine hK.out _ _ ⟨S5.out.cell (i := 3) rfl (o := 0) rfl, S5.out.cell (i := 2) rfl (o := 0) rfl, S5.out.cell (i := 2) rfl (o := 1) rfl, S5.out.cell (i := 2) rfl (o := 2) rfl⟩ (fun hS3 => ?_)
        clear hK hS2
        (try simp only [put_rules])
        (refine wpAnyH_take (i := 7) (v := ?_) rfl (by kernel_rfl) (by kernel_rfl) (by kernel_rfl) (fun _ _ _ h => h) (Or.inl ⟨by rfl, ?_⟩) (by assumption) ?_; rotate_left; (focus (intro w hSw; (try dsimp only at hSw); go_simp; (try with_reducible rfl); done)); (try simp only [put_rules]))
        (refine wpAnyH_ready (rs := [8]) (by kernel_rfl) (by simp) ?_; refine AllReadyH.cons rfl (fun K hK => ?_) AllReadyH.nil)
        go_simp
        have S6 := S5.out.store (i := 5) rfl q (.int .i64 (M.length : Nat))
        simp only [List.set_cons_zero, List.set_cons_succ] at S6
        rw [numsA_snoc hn1] at S6
        refine hK.out _ _ ⟨S6.cell (i := 3) rfl (o := 0) rfl, S6.cell (i := 2) rfl (o := 0) rfl, S6.cell (i := 2) rfl (o := 1) rfl, S6.cell (i := 2) rfl (o := 2) rfl⟩ (fun hS4 => ?_)
        clear hK hS3 S5 t0 t1
        (try simp only [put_rules])
        (refine wpAnyH_done (by kernel_rfl) ?_ _)
        clear hS4
        have v0 := S6.cell (i := 2) rfl (o := 0) rfl
        by_cases h1 : gk = 1
        · subst h1
          have hst3 := hst1.out rfl
          clear hst1 hst2 h4
          have v3 := S6.cell (i := 3) rfl (o := 0) rfl
          have v4 := S6.cell (i := 4) rfl (o := 0) rfl
          have v5 := S6.cell (i := 5) rfl (o := q) (numsA_get hlt)
          rw [getD_new hn1] at v5
          have hf3 := Lib.hid (addG_any ob sv' (M ++ [z]) ⟨4, (M.length : Nat), 0⟩ _ (by rw [List.length_append, List.length_singleton]; omega) S6.drew)
          rw [show (M ++ [z]).length = M.length + 1 by simp] at hf3
          replace S6 := Lib.hid S6
          rw [hst3] at hst
          clear hst3
          go_wp2_with fail
          refine wp_region_held_lit (S := (fun w' => w'.cell? ⟨b1, 0, none⟩ = some (.slice (some ⟨a1, 0, none⟩) gs.length gs.length) ∧ w'.cell? ⟨b2, 0, none⟩ = some (.slice (some ⟨a2, 0, none⟩) gs.length gs.length) ∧ w'.cell? ⟨a1, q, none⟩ = some (.int .i64 (M.length : Nat)))) 11 [false, false, false, false, false, false, false, false, false, false, false] (by kernel_rfl) (by kernel_rfl) (by kernel_rfl) ?_ ?_
          · exact ⟨v3, v4, v5⟩
          intro hSc
          (refine wpAnyH_take (i := 0) (v := ?_) rfl (by kernel_rfl) (by kernel_rfl) (by kernel_rfl) (fun _ _ _ h => h) (Or.inl ⟨by rfl, ?_⟩) (by assumption) ?_; rotate_left; (focus (intro w hSw; (try dsimp only at hSw); go_simp; (try with_reducible rfl); done)); (try simp only [put_rules]))
          (refine wpAnyH_take (i := 1) (v := ?_) rfl (by kernel_rfl) (by kernel_rfl) (by kernel_rfl) (fun _ _ _ h => h) (Or.inl ⟨by rfl, ?_⟩) (by assumption) ?_; rotate_left; (focus (intro w hSw; (try dsimp only at hSw); go_simp; (try with_reducible rfl); done)); (try simp only [put_rules]))
          (refine wpAnyH_take (i := 2) (v := ?_) rfl (by kernel_rfl) (by kernel_rfl) (by kernel_rfl) (fun _ _ _ h => h) (Or.inl ⟨by rfl, ?_⟩) (by assumption) ?_; rotate_left; (focus (intro w hSw; (try dsimp only at hSw); go_simp; (try with_reducible rfl); done)); (try simp only [put_rules]))
          (refine wpAnyH_take (i := 3) (v := ?_) rfl (by kernel_rfl) (by kernel_rfl) (by kernel_rfl) (fun _ _ _ h => h) (Or.inl ⟨by rfl, ?_⟩) (by assumption) ?_; rotate_left; (focus (intro w hSw; (try dsimp only at hSw); go_simp; (try with_reducible rfl); done)); (try simp only [put_rules]))
          (refine wpAnyH_take (i := 4) (v := ?_) rfl (by kernel_rfl) (by kernel_rfl) (by kernel_rfl) (fun _ _ _ h => h) (Or.inl ⟨by rfl, ?_⟩) (by assumption) ?_; rotate_left; (focus (intro w hSw; (try dsimp only at hSw); go_simp; (try with_reducible rfl); done)); (try simp only [put_rules]))
          (refine wpAnyH_take (i := 5) (v := ?_) rfl (by kernel_rfl) (by kernel_rfl) (by kernel_rfl) (fun _ _ _ h => h) (Or.inl ⟨by rfl, ?_⟩) (by assumption) ?_; rotate_left; (focus (intro w hSw; (try dsimp only at hSw); go_simp; (try with_reducible rfl); done)); (try simp only [put_rules]))
          (refine wpAnyH_take (i := 6) (v := ?_) rfl (by kernel_rfl) (by kernel_rfl) (by kernel_rfl) (fun _ _ _ h => h) (Or.inl ⟨by rfl, ?_⟩) (by assumption) ?_; rotate_left; (focus (intro w hSw; (try dsimp only at hSw); go_simp; (try with_reducible rfl); done)); (try simp only [put_rules]))
          (refine wpAnyH_take (i := 7) (v := ?_) rfl (by kernel_rfl) (by kernel_rfl) (by kernel_rfl) (fun _ _ _ h => h) (Or.inl ⟨by rfl, ?_⟩) (by assumption) ?_; rotate_left; (focus (intro w hSw; (try dsimp only at hSw); go_simp; (try with_reducible rfl); done)); (try simp only [put_rules]))
          (refine wpAnyH_ready (rs := [8]) (by kernel_rfl) (by simp) ?_; refine AllReadyH.cons rfl (fun K hK => ?_) AllReadyH.nil)
          go_simp
          refine hf3.out.mono ?_
          rintro e w4 ⟨sv2, rfl, S7⟩
          unfold AddSp at S7
          have t0 := S7.cell (i := 6) rfl (o := q) (numsA_get hlt)
          have t1 := S7.frozen (i := 6) rfl q
          have t2 := S7.cell (i := 5) rfl (o := q) (numsA_get hlt)
          rw [getD_new hn1] at t2
          replace S7 := Lib.hid S7
          clear hf3 S6
          go_wp2_with fail
          refine hK.out _ _ ⟨S7.out.cell (i := 3) rfl (o := 0) rfl, S7.out.cell (i := 4) rfl (o := 0) rfl, t2⟩ (fun hS5 => ?_)
          clear hK hSc
          (try simp only [put_rules])
          (refine wpAnyH_take (i := 9) (v := ?_) rfl (by kernel_rfl) (by kernel_rfl) (by kernel_rfl) (fun _ _ _ h => h) (Or.inl ⟨by rfl, ?_⟩) (by assumption) ?_; rotate_left; (focus (intro w hSw; (try dsimp only at hSw); go_simp; (try with_reducible rfl); done)); (try simp only [put_rules]))
          (refine wpAnyH_ready (rs := [10]) (by kernel_rfl) (by simp) ?_; refine AllReadyH.cons rfl (fun K hK => ?_) AllReadyH.nil)
          go_simp
          have S8 := S7.out.store (i := 6) rfl q (.int .i64 ((M.length + 1 : Nat) : Int))
          simp only [List.set_cons_zero, List.set_cons_succ] at S8
          rw [numsA_snoc hn2] at S8
          have t3 := S8.cell (i := 5) rfl (o := q) (numsA_get hlt)
          rw [getD_new hn1] at t3
          refine hK.out _ _ ⟨S8.cell (i := 3) rfl (o := 0) rfl, S8.cell (i := 4) rfl (o := 0) rfl, t3⟩ (fun hS6 => ?_)
          have S9 := Lib.hid (S8.pick [0, 0, 1, 1, 1, 1] rfl)
          clear hK hS5 S7 S8 t0 t1 t2 t3
          (try simp only [put_rules])
          (refine wpAnyH_done (by kernel_rfl) ?_ _)
          clear hS6 v0 v3 v4 v5
          go_wp2_with fail
          go_roundw
          case rel =>
            refine ⟨q + 1, sv2, by omega, by first | rfl | simp, ?_⟩
            unfold Hid PnSp
            rw [hst.out]
            exact S9.out
          case measure => simp [intOf]; omega
        · have hst3 := hst2.out h1
          clear hst1 hst2
          rw [hst3] at hst
          clear hst3
          have hdk := Lib.hid (fun W => dualKind_any gk W)
          have v8 := S6.frozen (i := 2) rfl 0
          have S7 := S6.store (i := 2) rfl 0 (.int .i64 (dualK gk))
          simp only [List.set_cons_zero, List.set_cons_succ] at S7
          have d0 := S7.cell (i := 2) rfl (o := 0) rfl
          have d1 := S7.cell (i := 2) rfl (o := 1) rfl
          have d2 := S7.cell (i := 2) rfl (o := 2) rfl
          have d4 := S7.cell (i := 4) rfl (o := 0) rfl
          have S7d := S7.drew
          have x4 := S7d.cell (i := 4) rfl (o := 0) rfl
          have hid2 : insG ⟨dualK gk, ga, gb⟩ = insG ⟨gk, ga, gb⟩ := ins_dual ⟨gk, ga, gb⟩
          have hmv := Lib.hid (moved_any (cb := #[.pointer (some ⟨b2, 0, none⟩)]) eg3.out (fun k => ot.getD k 0) ⟨dualK gk, ga, gb⟩ (fun k hk => by rw [hid2] at hk; have := hlt2 k hk; omega) hga0 hgb0 _ (fun k hk W hW => by
            rw [hid2] at hk
            exact otherLook_any b2 a2 gs.length gs.length k ((ot.getD k 0 : Nat) : Int) (by have := hlt2 k hk; omega) W ((hW.cell (p := ⟨b2, 0, none⟩) (S7d.box (i := 4) rfl).2.1).trans x4) ((hW.cell (p := ⟨a2, k, none⟩) (S7d.box (i := 6) rfl).2.1).trans (S7d.cell (i := 6) rfl (o := k) (numsA_get (by have := hlt2 k hk; omega))))))
          generalize mvG (fun k => ot.getD k 0) ⟨dualK gk, ga, gb⟩ = y at hmv hst
          obtain ⟨dk, hdk2⟩ : ∃ dk, dualK gk = dk := ⟨_, rfl⟩
          rw [hdk2] at hmv hdk d0 S7d
          clear hdk2 hid2 S6 S7 x4
          replace S7 := Lib.hid S7d
          clear S7d
          go_wp2_with fail
          refine (hdk.out _).mono ?_
          rintro e w4 ⟨rfl, rfl⟩
          go_wp2_with fail
          refine wp_region_held_lit (S := (fun w' => w'.cell? ⟨b2, 0, none⟩ = some (.slice (some ⟨a2, 0, none⟩) gs.length gs.length) ∧ w'.cell? ⟨wr.heap.size, 0, none⟩ = some (.int .i64 dk) ∧ w'.cell? ⟨wr.heap.size, 1, none⟩ = some (.int .i64 ga) ∧ w'.cell? ⟨wr.heap.size, 2, none⟩ = some (.int .i64 gb))) 9 [false, false, false, false, false, false, false, false, false] (by kernel_rfl) (by kernel_rfl) (by kernel_rfl) ?_ ?_
          · exact ⟨S7.out.cell (i := 4) rfl (o := 0) rfl, S7.out.cell (i := 2) rfl (o := 0) rfl, S7.out.cell (i := 2) rfl (o := 1) rfl, S7.out.cell (i := 2) rfl (o := 2) rfl⟩
          intro hSc
          (refine wpAnyH_take (i := 0) (v := ?_) rfl (by kernel_rfl) (by kernel_rfl) (by kernel_rfl) (fun _ _ _ h => h) (Or.inl ⟨by rfl, ?_⟩) (by assumption) ?_; rotate_left; (focus (intro w hSw; (try dsimp only at hSw); go_simp; (try with_reducible rfl); done)); (try simp only [put_rules]))
          (refine wpAnyH_take (i := 1) (v := ?_) rfl (by kernel_rfl) (by kernel_rfl) (by kernel_rfl) (fun _ _ _ h => h) (Or.inl ⟨by rfl, ?_⟩) (by assumption) ?_; rotate_left; (focus (intro w hSw; (try dsimp only at hSw); go_simp; (try with_reducible rfl); done)); (try simp only [put_rules]))
          (refine wpAnyH_take (i := 2) (v := ?_) rfl (by kernel_rfl) (by kernel_rfl) (by kernel_rfl) (fun _ _ _ h => h) (Or.inl ⟨by rfl, ?_⟩) (by assumption) ?_; rotate_left; (focus (intro w hSw; (try dsimp only at hSw); go_simp; (try with_reducible rfl); done)); (try simp only [put_rules]))
          (refine wpAnyH_take (i := 3) (v := ?_) rfl (by kernel_rfl) (by kernel_rfl) (by kernel_rfl) (fun _ _ _ h => h) (Or.inl ⟨by rfl, ?_⟩) (by assumption) ?_; rotate_left; (focus (intro w hSw; (try dsimp only at hSw); go_simp; (try with_reducible rfl); done)); (try simp only [put_rules]))
          (refine wpAnyH_take (i := 4) (v := ?_) rfl (by kernel_rfl) (by kernel_rfl) (by kernel_rfl) (fun _ _ _ h => h) (Or.inl ⟨by rfl, ?_⟩) (by assumption) ?_; rotate_left; (focus (intro w hSw; (try dsimp only at hSw); go_simp; (try with_reducible rfl); done)); (try simp only [put_rules]))
          (refine wpAnyH_ready (rs := [5]) (by kernel_rfl) (by simp) ?_; refine AllReadyH.cons rfl (fun K hK => ?_) AllReadyH.nil)
          go_simp
          go_at_call 51
          refine hmv.out.mono ?_
          rintro e w5 ⟨rfl, hb5⟩
          have S8 := Lib.hid (S7.out.grow hb5)
          have hf3 := Lib.hid (addG_any ob sv' (M ++ [z]) y _ (by rw [List.length_append, List.length_singleton]; omega) S8.out)
          rw [show (M ++ [z]).length = M.length + 1 by simp] at hf3
          clear hmv S7 hb5 d0 d1 d2 d4
          go_wp2_with fail
          refine hK.out _ _ ⟨S8.out.cell (i := 4) rfl (o := 0) rfl, S8.out.cell (i := 2) rfl (o := 0) rfl, S8.out.cell (i := 2) rfl (o := 1) rfl, S8.out.cell (i := 2) rfl (o := 2) rfl⟩ (fun hS5 => ?_)
          clear hK hSc S8
          (try simp only [put_rules])
          (refine wpAnyH_ready (rs := [6]) (by kernel_rfl) (by simp) ?_; refine AllReadyH.cons rfl (fun K hK => ?_) AllReadyH.nil)
          go_simp
          refine hf3.out.mono ?_
          rintro e w6 ⟨sv2, rfl, S9⟩
          unfold AddSp at S9
          have t0 := S9.cell (i := 6) rfl (o := q) (numsA_get hlt)
          have t1 := S9.frozen (i := 6) rfl q
          replace S9 := Lib.hid S9
          clear hf3
          go_wp2_with fail
          refine hK.out _ _ ⟨S9.out.cell (i := 4) rfl (o := 0) rfl, S9.out.cell (i := 2) rfl (o := 0) rfl, S9.out.cell (i := 2) rfl (o := 1) rfl, S9.out.cell (i := 2) rfl (o := 2) rfl⟩ (fun hS6 => ?_)
          clear hK hS5
          (try simp only [put_rules])
          (refine wpAnyH_take (i := 7) (v := ?_) rfl (by kernel_rfl) (by kernel_rfl) (by kernel_rfl) (fun _ _ _ h => h) (Or.inl ⟨by rfl, ?_⟩) (by assumption) ?_; rotate_left; (focus (intro w hSw; (try dsimp only at hSw); go_simp; (try with_reducible rfl); done)); (try simp only [put_rules]))
          (refine wpAnyH_ready (rs := [8]) (by kernel_rfl) (by simp) ?_; refine AllReadyH.cons rfl (fun K hK => ?_) AllReadyH.nil)
          go_simp
          have SA := S9.out.store (i := 6) rfl q (.int .i64 ((M.length + 1 : Nat) : Int))
          simp only [List.set_cons_zero, List.set_cons_succ] at SA
          rw [numsA_snoc hn2] at SA
          refine hK.out _ _ ⟨SA.cell (i := 4) rfl (o := 0) rfl, SA.cell (i := 2) rfl (o := 0) rfl, SA.cell (i := 2) rfl (o := 1) rfl, SA.cell (i := 2) rfl (o := 2) rfl⟩ (fun hS7 => ?_)
          have SB := Lib.hid (SA.pick [0, 0, 1, 1, 1, 1] rfl)
          clear hK hS6 S9 SA t0 t1
          (try simp only [put_rules])
          (refine wpAnyH_done (by kernel_rfl) ?_ _)
          clear hS7 v0
          go_wp2_with fail
          go_roundw
          case rel =>
            refine ⟨q + 1, sv2, by omega, by first | rfl | simp, ?_⟩
            unfold Hid PnSp
            rw [hst.out]
            exact SB.out
          case measure => simp [intOf]; omega
      · obtain rfl : q = gs.length := by omega
        have hP := pinv gs hg.out
        unfold PnSp at hS
        rw [List.take_length] at hS
        have hR : pushR gs = trimG (cutP (pushesG gs) gs.length) (needL (cutP (pushesG gs) gs.length)) := rfl
        unfold cutP at hR
        have hO : ∃ L, (pushesG gs).out.length = L := ⟨_, rfl⟩
        obtain ⟨L, hO⟩ := hO
        have hOL := hO
        generalize hse : pushesG gs = s at hS hP hR hOL
        clear hse
        obtain ⟨M, B, ot⟩ := s
        dsimp only at hOL
        subst hOL
        replace hO := Lib.hid hO
        have hPl := hP.len
        have hPt := hP.lt1 (gs.length - 1) (by omega)
        have hPo := hP.ok
        dsimp only at hPl hPt hPo hS hR
        obtain ⟨aM, cM, e, hM⟩ := gt_own (hS.out.own (i := 1) rfl) (gt_small hPo (by omega) (by omega))
        cases e
        have hcap := own_cap (hS.out.own (i := 1) rfl)
        obtain ⟨mb, mo, e, -, -, -⟩ := hM.at_ 0 (by omega)
        cases e
        have c0 := hS.out.cell (i := 0) rfl (o := 0) rfl
        by_cases hbig : M.length ≤ 200
        · have hd : decide ((pushesG gs).out.length ≤ 200) = true := by rw [hO.out]; exact decide_eq_true hbig
          replace hd := Lib.hid hd
          have hbi : ¬ (200 : Int) < M.length := by omega
          obtain ⟨x, hx⟩ : ∃ x, B.getD (gs.length - 1) 0 = x := ⟨_, rfl⟩
          have t0 := hS.out.cell (i := 4) rfl (o := gs.length - 1) (numsA_get (by omega))
          rw [hx] at hPt t0 hR
          obtain ⟨m, hm⟩ : ∃ m, gs.length - 1 = m := ⟨_, rfl⟩
          rw [hm] at t0
          have hmi : (m : Int) < gs.length := by omega
          have hw1 : IntKind.i64.wrap ((gs.length : Int) - 1) = (m : Int) := by rw [show (gs.length : Int) - 1 = m by omega]; exact IntWalk.i64_in _ (by omega)
          have hw2 : IntKind.i64.wrap ((x : Int) + 1) = ((x + 1 : Nat) : Int) := by rw [show (x : Int) + 1 = ((x + 1 : Nat) : Int) by omega]; exact IntWalk.i64_in _ (by omega)
          have hxc : (x : Int) + 1 ≤ cM := by omega
          have hx0 : (0 : Int) ≤ (x : Int) + 1 := by omega
          have htl : (M.take (x + 1)).length = x + 1 := by rw [List.length_take]; omega
          have htr := fun W (h : Below wr.heap.size wr W) => trim_any (some ⟨mb, mo, none⟩) cM (M.take (x + 1)) W ((hM.grow h).take (x + 1)) (hPo.take _) (by omega) (by omega) (by omega)
          rw [htl] at htr
          rw [← hR] at htr
          clear hR
          generalize hRR : pushR gs = R at htr
          replace hRR := Lib.hid hRR
          have c1 := hS.out.cell (i := 2) rfl (o := 0) rfl
          have S3 := Lib.hid hS.out.drew
          have htr2 := Lib.hid (htr _ (bdr (bb wr)))
          replace hm := Lib.hid hm
          clear hP hPt hPo hM htl htr hS
          go_wp2_with fail
          refine wp_region_held_lit (S := (fun w' => w'.cell? ⟨ob, 0, none⟩ = some (.slice (some ⟨mb, mo, none⟩) M.length cM) ∧ w'.cell? ⟨b1, 0, none⟩ = some (.slice (some ⟨a1, 0, none⟩) gs.length gs.length) ∧ w'.cell? ⟨a1, m, none⟩ = some (.int .i64 (x : Int)))) 12 [false, false, false, false, false, false, false, false, false, false, false, false] (by kernel_rfl) (by kernel_rfl) (by kernel_rfl) ?_ ?_
          · exact ⟨c0, c1, t0⟩
          intro hSc
          (refine wpAnyH_take (i := 0) (v := ?_) rfl (by kernel_rfl) (by kernel_rfl) (by kernel_rfl) (fun _ _ _ h => h) (Or.inl ⟨by rfl, ?_⟩) (by assumption) ?_; rotate_left; (focus (intro w hSw; (try dsimp only at hSw); go_simp; (try with_reducible rfl); done)); (try simp only [put_rules]))
          (refine wpAnyH_take (i := 1) (v := ?_) rfl (by kernel_rfl) (by kernel_rfl) (by kernel_rfl) (fun _ _ _ h => h) (Or.inl ⟨by rfl, ?_⟩) (by assumption) ?_; rotate_left; (focus (intro w hSw; (try dsimp only at hSw); go_simp; (try with_reducible rfl); done)); (try simp only [put_rules]))
          (refine wpAnyH_take (i := 2) (v := ?_) rfl (by kernel_rfl) (by kernel_rfl) (by kernel_rfl) (fun _ _ _ h => h) (Or.inl ⟨by rfl, ?_⟩) (by assumption) ?_; rotate_left; (focus (intro w hSw; (try dsimp only at hSw); go_simp; (try with_reducible rfl); done)); (try simp only [put_rules]))
          (refine wpAnyH_take (i := 3) (v := ?_) rfl (by kernel_rfl) (by kernel_rfl) (by kernel_rfl) (fun _ _ _ h => h) (Or.inl ⟨by rfl, ?_⟩) (by assumption) ?_; rotate_left; (focus (intro w hSw; (try dsimp only at hSw); go_simp; (try with_reducible rfl); done)); (try simp only [put_rules]))
          (refine wpAnyH_take (i := 4) (v := ?_) rfl (by kernel_rfl) (by kernel_rfl) (by kernel_rfl) (fun _ _ _ h => h) (Or.inl ⟨by rfl, ?_⟩) (by assumption) ?_; rotate_left; (focus (intro w hSw; (try dsimp only at hSw); go_simp; (try with_reducible rfl); done)); (try simp only [put_rules]))
          (refine wpAnyH_take (i := 5) (v := ?_) rfl (by kernel_rfl) (by kernel_rfl) (by kernel_rfl) (fun _ _ _ h => h) (Or.inl ⟨by rfl, ?_⟩) (by assumption) ?_; rotate_left; (focus (intro w hSw; (try dsimp only at hSw); go_simp; (try with_reducible rfl); done)); (try simp only [put_rules]))
          (refine wpAnyH_take (i := 6) (v := ?_) rfl (by kernel_rfl) (by kernel_rfl) (by kernel_rfl) (fun _ _ _ h => h) (Or.inl ⟨by rfl, ?_⟩) (by assumption) ?_; rotate_left; (focus (intro w hSw; (try dsimp only at hSw); go_simp; (try with_reducible rfl); done)); (try simp only [put_rules]))
          (refine wpAnyH_take (i := 7) (v := ?_) rfl (by kernel_rfl) (by kernel_rfl) (by kernel_rfl) (fun _ _ _ h => h) (Or.inl ⟨by rfl, ?_⟩) (by assumption) ?_; rotate_left; (focus (intro w hSw; (try dsimp only at hSw); go_simp; (try with_reducible rfl); done)); (try simp only [put_rules]))
          (refine wpAnyH_take (i := 8) (v := ?_) rfl (by kernel_rfl) (by kernel_rfl) (by kernel_rfl) (fun _ _ _ h => h) (Or.inl ⟨by rfl, ?_⟩) (by assumption) ?_; rotate_left; (focus (intro w hSw; (try dsimp only at hSw); go_simp; (try with_reducible rfl); done)); (try simp only [put_rules]))
          clear c0 c1 t0
          (refine wpAnyH_ready (rs := [9]) (by kernel_rfl) (by simp) ?_; refine AllReadyH.cons rfl (fun K hK => ?_) AllReadyH.nil)
          go_simp
          go_at_call 55
          refine htr2.out.mono ?_
          rintro e w2 ⟨v, rfl, S4⟩
          have S5 := Lib.hid (S3.out.seq S4)
          clear htr2 S3 S4
          go_wp2_with fail
          refine hK.out _ _ ⟨S5.out.cell (i := 1) rfl (o := 0) rfl, S5.out.cell (i := 3) rfl (o := 0) rfl, by rw [← hx, ← hm.out]; exact S5.out.cell (i := 5) rfl (o := gs.length - 1) (numsA_get (by omega))⟩ (fun hS3 => ?_)
          clear hK hSc
          (try simp only [put_rules])
          (refine wpAnyH_take (i := 10) (v := ?_) rfl (by kernel_rfl) (by kernel_rfl) (by kernel_rfl) (fun _ _ _ h => h) (Or.inl ⟨by rfl, ?_⟩) (by assumption) ?_; rotate_left; (focus (intro w hSw; (try dsimp only at hSw); go_simp; (try with_reducible rfl); done)); (try simp only [put_rules]))
          (refine wpAnyH_take (i := 11) (v := ?_) rfl (by kernel_rfl) (by kernel_rfl) (by kernel_rfl) (fun _ _ _ h => h) (Or.inl ⟨by rfl, ?_⟩) (by assumption) ?_; rotate_left; (focus (intro w hSw; (try dsimp only at hSw); go_simp; (try with_reducible rfl); done)); (try simp only [put_rules]))
          (refine wpAnyH_done (by kernel_rfl) ?_ _)
          clear hS3
          go_wp2_with fail
          go_ret2
          rw [hd.out, hRR.out]
          exact GOut.yes (S5.out.pick [0] rfl)
        · have hd : decide ((pushesG gs).out.length ≤ 200) = false := by rw [hO.out]; exact decide_eq_false hbig
          replace hd := Lib.hid hd
          have hbi : (200 : Int) < M.length := by omega
          have hB := Lib.hid hS.out.below
          clear hP hPt hPo hM hS hR
          go_wp2_with fail
          go_ret2
          rw [hd.out]
          exact GOut.no hB.out

set_option maxRecDepth 100000 in
set_option maxHeartbeats 8000000 in
theorem pushM_any (vars : Int) (A : Option Addr) (c : Nat) (gs : List Gt) (w : World) (hx : GtAt w A gs) (hl : gs.length ≤ 1000) :
    Calls Try.prog 17 #[.int .i64 vars, .slice A gs.length c] w (GOut w (circB vars gs && decide ((pushesG gs).out.length ≤ 200)) (pushR gs)) := by
  have hc := isCircuit_any vars A c gs w hx (by omega)
  cases hq : circB vars gs
  · rw [hq] at hc
    replace hc := Lib.hid hc
    clear hx hq
    rw [Bool.false_and]
    go_enter Try.func17, Try.ntmps17
    go_wp2_with fail
    refine hc.out.mono ?_
    rintro e w1 ⟨rfl, hb1⟩
    replace hb1 := Lib.hid hb1
    go_wp2_with fail
    go_ret2
    exact GOut.no hb1.out
  · rw [Bool.true_and]
    exact push_any vars A c gs w hx hq
end Go.Proofs.Ytkhopkonddgicaa

/- Contract: the folded circuit, in the reference. Printed by gen_l6fold.py. -/
namespace Go.Proofs.Ytkhopkonddgicaa
open Go.RowKit

theorem pair_same (M : List Gt) (g : Gt) (d n : Int) (ha : 0 ≤ g.a) (hb : 0 ≤ g.b) : (0 ≤ sameR M g d n → pairG M g d n = (M, (sameR M g d n).toNat)) ∧ (¬ 0 ≤ sameR M g d n → pairG M g d n = keepG M g) := by
  unfold sameR pairG
  by_cases h1 : kindG M g.a = d
  · simp only [if_pos h1]; exact ⟨fun _ => trivial, fun h => absurd ha h⟩
  simp only [if_neg h1]
  by_cases h2 : kindG M g.b = d
  · simp only [if_pos h2]; exact ⟨fun _ => trivial, fun h => absurd hb h⟩
  simp only [if_neg h2]
  by_cases h3 : kindG M g.a = n
  · simp only [if_pos h3, if_pos (Or.inl h3 : kindG M g.a = n ∨ g.a = g.b)]; exact ⟨fun _ => trivial, fun h => absurd hb h⟩
  simp only [if_neg h3]
  by_cases h5 : g.a = g.b
  · simp only [if_pos (Or.inr h5 : kindG M g.a = n ∨ g.a = g.b), if_pos (Or.inr h5 : kindG M g.b = n ∨ g.a = g.b)]; exact ⟨fun _ => by rw [h5], fun h => absurd hb h⟩
  by_cases h4 : kindG M g.b = n
  · simp only [if_neg (fun h => h.elim h3 h5 : ¬ (kindG M g.a = n ∨ g.a = g.b)), if_pos h4, if_pos (Or.inl h4 : kindG M g.b = n ∨ g.a = g.b)]; exact ⟨fun _ => trivial, fun h => absurd ha h⟩
  · simp only [if_neg (fun h => h.elim h3 h5 : ¬ (kindG M g.a = n ∨ g.a = g.b)), if_neg h4, if_neg (fun h => h.elim h4 h5 : ¬ (kindG M g.b = n ∨ g.a = g.b))]; exact ⟨fun h => absurd h (by decide), fun _ => trivial⟩

set_option maxRecDepth 100000 in
set_option maxHeartbeats 16000000 in
theorem l6Fold_any {vars : Int} (A : Option Addr) (c : Nat) (gs : List Gt) (w : World) (hx : GtAt w A gs) (hg : OkG vars gs) (hp : 0 < gs.length) (hl : gs.length ≤ 1000) (hv : vars ≤ 1000) :
    Calls Try.prog 61 #[.slice A gs.length c] w fun e w' => ∃ v, e = .returned v ∧ Sp w w' [Own 41 3 v (foldR gs).length ((foldR gs).flatMap gtEnc)] := by
  have hmk := fun W => mk_nums gs.length (by omega) (gs.length : Int) rfl W
  obtain ⟨Z, hZ⟩ : ∃ Z, numsA gs.length (fun _ => 0) = Z := ⟨_, rfl⟩
  rw [hZ] at hmk
  replace hZ := Lib.hid hZ
  have hX := Lib.hid hx
  replace hg := Lib.hid hg
  obtain ⟨N1, hN1⟩ : ∃ N1, w.heap.size = N1 := ⟨_, rfl⟩
  have S1 := Sp.start w
  clear hx
  go_enter Try.func61, Try.ntmps61
  go_upto_region 1 with fail
  go_cut [3, 4] (fun s4 s5 wx => ∃ ob tb : Nat, s4 = .slice (some ⟨ob, 0, none⟩) 0 0 ∧ s5 = .slice (some ⟨tb, 0, none⟩) gs.length gs.length ∧ Hid (Sp w wx [Own 41 3 (.slice (some ⟨ob, 0, none⟩) 0 0) 0 [], Box tb 3 Z]))
  case first =>
    go_region
    all_goals go_wp2_with fail
    all_goals go_meet
    all_goals (try rw [hN1])
    all_goals first
      | exact ⟨_, _, rfl, rfl, Lib.hid (Sp.pick [1, 0] (two1 S1 hN1 _ _ _ _) rfl)⟩
      | exact ⟨_, _, rfl, rfl, Lib.hid (Sp.pick [0, 0] (two2 S1 hN1 _ _ _ _) rfl)⟩
  case rest =>
    obtain ⟨ob, tb, rfl, rfl, S2⟩ := hcut
    clear S1 hmk hN1
    have hz3 : Hid (numsA gs.length (fun j => (foldsG (gs.take 0)).2.getD j 0) = Z) := by
      unfold Hid
      rw [← hZ.out]
      exact numsA_congr fun j _ => by simp [foldsG]
    go_wp2_with fail
    go_loopw [5, 3] (fun i o wr => ∃ (q : Nat) (sv : Value), q ≤ gs.length ∧ i = .int .i64 (q : Int) ∧ o = sv ∧ Hid (Sp w wr [Own 41 3 sv (foldsG (gs.take q)).1.length ((foldsG (gs.take q)).1.flatMap gtEnc), Box tb 3 (numsA gs.length (fun j => (foldsG (gs.take q)).2.getD j 0))])) (fun i _ _ => gs.length - (intOf i).toNat)
    case atStart => exact ⟨0, _, Nat.zero_le _, rfl, rfl, by unfold Hid; rw [hz3.out]; exact S2.out⟩
    case round =>
      obtain ⟨q, sv, hq, rfl, rfl, hS⟩ := hrel
      clear S2
      obtain ⟨aS, cS, rfl⟩ := own_slice (hS.out.own (i := 0) rfl)
      by_cases hlt : q < gs.length
      · have hqi : (q : Int) < gs.length := by omega
        have hF := finv (gs.take q) (hg.out.take q)
        have hst := folds_take hlt
        obtain ⟨bg, og, e, m0, m1, m2⟩ := (hX.out.grow hS.out.below).at_ q hlt
        cases e
        have hgq := hg.out q hlt
        have hlt2 := ins_lt hgq
        have hgi := gtB_iff.1 hgq
        have hl2 : (gs.take q).length = q := by rw [List.length_take]; omega
        generalize foldsG (gs.take q) = s at hS hF hst
        obtain ⟨M, B⟩ := s
        generalize gs[q] = g at m0 m1 m2 hst hgq hlt2 hgi
        dsimp only at hst
        have hFn := hF.n
        have hFl := hF.len
        have hFt := hF.lt
        have hFo := hF.ok
        rw [hl2] at hFn hFl hFt
        dsimp only at hFn hFl hFt hFo hS
        have hok := gt_small hFo hv (by omega)
        have hmv := Lib.hid (l6Moved_any g tb 0 gs.length gs.length (fun k => B.getD k 0) (by omega) (by omega) wr (fun k hk => ⟨by have := hlt2 k hk; omega, by rw [Nat.zero_add]; exact hS.out.cell (i := 1) rfl (o := k) (numsA_get (by have := hlt2 k hk; omega))⟩))
        have hmg : gtB vars M.length (mvG (fun k => B.getD k 0) g) = true := mv_ok hgq fun k hk => hFt k (hlt2 k hk)
        generalize mvG (fun k => B.getD k 0) g = z at hmv hst hmg
        have hzi := gtB_iff.1 hmg
        obtain ⟨gk, ga, gb⟩ := g
        obtain ⟨zk, za, zb⟩ := z
        dsimp only at m0 m1 m2 hzi
        have hFold : Hid (foldG M ⟨zk, za, zb⟩ = if zk = 4 then (if kindG M za = 2 then keepG M ⟨3, 0, 0⟩ else if kindG M za = 3 then keepG M ⟨2, 0, 0⟩
          else if kindG M za = 4 then (M, (M.getD za.toNat ⟨0, 0, 0⟩).a.toNat) else keepG M ⟨zk, za, zb⟩) else if zk = 5 then pairG M ⟨zk, za, zb⟩ 3 2 else if zk = 6 then pairG M ⟨zk, za, zb⟩ 2 3 else keepG M ⟨zk, za, zb⟩) := rfl
        have hps := Lib.hid (fun d n (h : 0 ≤ za) (h' : 0 ≤ zb) => pair_same M ⟨zk, za, zb⟩ d n h h')
        obtain ⟨R, hR⟩ : ∃ R, foldG M ⟨zk, za, zb⟩ = R := ⟨_, rfl⟩
        rw [hR] at hst hFold
        clear hR
        replace hst := Lib.hid hst
        replace hFo := Lib.hid hFo
        replace hok := Lib.hid hok
        replace hzi := Lib.hid hzi
        clear hF hgi hlt2 hmg hFt hgq hz3
        go_wp2_with fail
        refine hmv.out.mono ?_
        rintro e w2 ⟨rfl, hb2⟩
        have S4 := (hS.out.grow hb2).alloc_box #[.int .i64 zk, .int .i64 za, .int .i64 zb] 41
        have d0 := S4.cell (i := 0) rfl (o := 0) rfl
        have d1 := S4.cell (i := 0) rfl (o := 1) rfl
        have d2 := S4.cell (i := 0) rfl (o := 2) rfl
        have v0 := S4.frozen (i := 0) rfl 0
        have v1 := S4.frozen (i := 0) rfl 1
        have v2 := S4.frozen (i := 0) rfl 2
        replace S4 := Lib.hid S4
        clear hmv hS hb2 m0 m1 m2
        by_cases h4 : zk = 4
        · subst h4
          rw [if_pos rfl] at hFold
          obtain ⟨a, rfl⟩ : ∃ a : Nat, za = a := ⟨za.toNat, by have := hzi.out; omega⟩
          have haM : a < M.length := by have := hzi.out; omega
          have hai : (a : Int) < M.length := by omega
          obtain ⟨A', c', e', hM⟩ := gt_own (S4.out.own (i := 1) rfl) hok.out
          cases e'
          obtain ⟨mb, mo, rfl, m0, m1, m2⟩ := hM.at_ a haM
          have hka : kindG M (a : Int) = M[a].k := kind_at (i := (a : Int)) (by omega)
          have hd : M.getD (a : Int).toNat ⟨0, 0, 0⟩ = M[a] := by rw [Int.toNat_natCast, List.getD_eq_getElem?_getD, List.getElem?_eq_getElem haM]; rfl
          rw [hka, hd] at hFold
          have hya := gtB_iff.1 (hFo.out a haM)
          generalize M[a] = y at m0 m1 m2 hFold hya
          obtain ⟨yk, ya, yb⟩ := y
          dsimp only at m0 m1 m2 hFold hya
          replace hya := Lib.hid hya
          clear hka hd hM m2
          by_cases y2 : yk = 2
          · subst y2
            rw [if_pos rfl] at hFold
            go_wp2_with fail
            refine (l6Constant_any false _).mono ?_
            rintro e w3 ⟨rfl, hb3⟩
            have S5 := S4.out.grow hb3
            have u0 := S5.frozen (i := 0) rfl 0
            have u1 := S5.frozen (i := 0) rfl 1
            have u2 := S5.frozen (i := 0) rfl 2
            have x0 := S5.cell (i := 0) rfl (o := 0) rfl
            have x1 := S5.cell (i := 0) rfl (o := 1) rfl
            have x2 := S5.cell (i := 0) rfl (o := 2) rfl
            have S8 := ((S5.store (i := 0) rfl 0 (.int .i64 3)).store (i := 0) rfl 1 (.int .i64 0)).store (i := 0) rfl 2 (.int .i64 0)
            have z0 := S8.cell (i := 0) rfl (o := 0) rfl
            have z1 := S8.cell (i := 0) rfl (o := 1) rfl
            have z2 := S8.cell (i := 0) rfl (o := 2) rfl
            replace S8 := Lib.hid S8
            clear S4 S5 hb3 d0 d1 d2 v0 v1 v2 m0 m1
            have hRe := hFold.out
            have hk := Lib.hid (l6Keep_any (w0 := w) (.slice (some ⟨mb, mo, none⟩) M.length cS) M ⟨3, 0, 0⟩ _ hok.out (by omega) (S8.out.pick [1, 0, 0] rfl))
            rw [← hRe] at hk
            replace hRe := Lib.hid hRe
            go_wp2_with fail
            refine hk.out.mono ?_
            rintro e wk ⟨sv', rfl, S5⟩
            replace S5 := Lib.hid S5
            obtain ⟨aT, cT, rfl⟩ := own_slice (S5.out.own (i := 0) rfl)
            clear hk S8 u0 u1 u2 x0 x1 x2 z0 z1 z2
            have t0 := S5.out.cell (i := 2) rfl (o := q) (numsA_get hlt)
            have t1 := S5.out.frozen (i := 2) rfl q
            have S6 := S5.out.store (i := 2) rfl q (.int .i64 ((R.2 : Nat) : Int))
            simp only [List.set_cons_zero, List.set_cons_succ] at S6
            have S7 := Lib.hid (S6.pick [0, 1] rfl)
            clear S6
            go_wp2_with fail
            go_roundw
            case rel =>
              refine ⟨q + 1, _, by omega, by first | rfl | simp, rfl, ?_⟩
              unfold Hid
              rw [hst.out]
              have h := S7.out
              rw [numsA_snoc hFn] at h
              exact h
            case measure => simp [intOf]; omega
          rw [if_neg y2] at hFold
          by_cases y3 : yk = 3
          · subst y3
            rw [if_pos rfl] at hFold
            go_wp2_with fail
            refine (l6Constant_any true _).mono ?_
            rintro e w3 ⟨rfl, hb3⟩
            have S5 := S4.out.grow hb3
            have u0 := S5.frozen (i := 0) rfl 0
            have u1 := S5.frozen (i := 0) rfl 1
            have u2 := S5.frozen (i := 0) rfl 2
            have x0 := S5.cell (i := 0) rfl (o := 0) rfl
            have x1 := S5.cell (i := 0) rfl (o := 1) rfl
            have x2 := S5.cell (i := 0) rfl (o := 2) rfl
            have S8 := ((S5.store (i := 0) rfl 0 (.int .i64 2)).store (i := 0) rfl 1 (.int .i64 0)).store (i := 0) rfl 2 (.int .i64 0)
            have z0 := S8.cell (i := 0) rfl (o := 0) rfl
            have z1 := S8.cell (i := 0) rfl (o := 1) rfl
            have z2 := S8.cell (i := 0) rfl (o := 2) rfl
            replace S8 := Lib.hid S8
            clear S4 S5 hb3 d0 d1 d2 v0 v1 v2 m0 m1
            have hRe := hFold.out
            have hk := Lib.hid (l6Keep_any (w0 := w) (.slice (some ⟨mb, mo, none⟩) M.length cS) M ⟨2, 0, 0⟩ _ hok.out (by omega) (S8.out.pick [1, 0, 0] rfl))
            rw [← hRe] at hk
            replace hRe := Lib.hid hRe
            go_wp2_with fail
            refine hk.out.mono ?_
            rintro e wk ⟨sv', rfl, S5⟩
            replace S5 := Lib.hid S5
            obtain ⟨aT, cT, rfl⟩ := own_slice (S5.out.own (i := 0) rfl)
            clear hk S8 u0 u1 u2 x0 x1 x2 z0 z1 z2
            have t0 := S5.out.cell (i := 2) rfl (o := q) (numsA_get hlt)
            have t1 := S5.out.frozen (i := 2) rfl q
            have S6 := S5.out.store (i := 2) rfl q (.int .i64 ((R.2 : Nat) : Int))
            simp only [List.set_cons_zero, List.set_cons_succ] at S6
            have S7 := Lib.hid (S6.pick [0, 1] rfl)
            clear S6
            go_wp2_with fail
            go_roundw
            case rel =>
              refine ⟨q + 1, _, by omega, by first | rfl | simp, rfl, ?_⟩
              unfold Hid
              rw [hst.out]
              have h := S7.out
              rw [numsA_snoc hFn] at h
              exact h
            case measure => simp [intOf]; omega
          rw [if_neg y3] at hFold
          by_cases y4 : yk = 4
          · subst y4
            rw [if_pos rfl] at hFold
            obtain ⟨r, rfl⟩ : ∃ r : Nat, ya = r := ⟨ya.toNat, by have := hya.out; omega⟩
            rw [Int.toNat_natCast] at hFold
            have hRe := hFold.out
            subst hRe
            have S5 := S4
            have hr0 : ¬ (r : Int) < 0 := by omega
            clear S4
            have t0 := S5.out.cell (i := 2) rfl (o := q) (numsA_get hlt)
            have t1 := S5.out.frozen (i := 2) rfl q
            have S6 := S5.out.store (i := 2) rfl q (.int .i64 ((r : Nat) : Int))
            simp only [List.set_cons_zero, List.set_cons_succ] at S6
            have S7 := Lib.hid (S6.pick [1, 1] rfl)
            clear S6
            go_wp2_with fail
            go_roundw
            case rel =>
              refine ⟨q + 1, _, by omega, by first | rfl | simp, rfl, ?_⟩
              unfold Hid
              rw [hst.out]
              have h := S7.out
              rw [numsA_snoc hFn] at h
              exact h
            case measure => simp [intOf]; omega
          rw [if_neg y4] at hFold
          have hRe := hFold.out
          have hk := Lib.hid (l6Keep_any (w0 := w) (.slice (some ⟨mb, mo, none⟩) M.length cS) M ⟨4, (a : Int), zb⟩ _ hok.out (by omega) (S4.out.pick [1, 0, 0] rfl))
          rw [← hRe] at hk
          replace hRe := Lib.hid hRe
          go_wp2_with fail
          refine hk.out.mono ?_
          rintro e wk ⟨sv', rfl, S5⟩
          replace S5 := Lib.hid S5
          obtain ⟨aT, cT, rfl⟩ := own_slice (S5.out.own (i := 0) rfl)
          clear hk S4 d0 d1 d2 v0 v1 v2 m0 m1
          have t0 := S5.out.cell (i := 2) rfl (o := q) (numsA_get hlt)
          have t1 := S5.out.frozen (i := 2) rfl q
          have S6 := S5.out.store (i := 2) rfl q (.int .i64 ((R.2 : Nat) : Int))
          simp only [List.set_cons_zero, List.set_cons_succ] at S6
          have S7 := Lib.hid (S6.pick [0, 1] rfl)
          clear S6
          go_wp2_with fail
          go_roundw
          case rel =>
            refine ⟨q + 1, _, by omega, by first | rfl | simp, rfl, ?_⟩
            unfold Hid
            rw [hst.out]
            have h := S7.out
            rw [numsA_snoc hFn] at h
            exact h
          case measure => simp [intOf]; omega
        rw [if_neg h4] at hFold
        by_cases h5 : zk = 5
        · subst h5
          rw [if_pos rfl] at hFold
          have hza : 0 ≤ za ∧ za < M.length := by have := hzi.out; omega
          have hzb : 0 ≤ zb ∧ zb < M.length := by have := hzi.out; omega
          obtain ⟨A', c', e', hM⟩ := gt_own (S4.out.own (i := 1) rfl) hok.out
          cases e'
          have hsm := Lib.hid (l6Same_any aS cS M ⟨5, za, zb⟩ 3 2 _ hM hza hzb)
          have hpp := hps.out 3 2 hza.1 hzb.1
          generalize sameR M ⟨5, za, zb⟩ 3 2 = at_ at hsm hpp
          clear hM
          by_cases hat : 0 ≤ at_
          · obtain ⟨r, rfl⟩ : ∃ r : Nat, at_ = r := ⟨at_.toNat, by omega⟩
            have hRe := hpp.1 hat
            rw [← hFold.out, Int.toNat_natCast] at hRe
            subst hRe
            have hr0 : ¬ (r : Int) < 0 := by omega
            go_wp2_with fail
            refine hsm.out.mono ?_
            rintro e w3 ⟨rfl, hb3⟩
            have S5 := Lib.hid (S4.out.grow hb3)
            clear S4 hb3 hsm d0 d1 d2 v0 v1 v2
            have t0 := S5.out.cell (i := 2) rfl (o := q) (numsA_get hlt)
            have t1 := S5.out.frozen (i := 2) rfl q
            have S6 := S5.out.store (i := 2) rfl q (.int .i64 ((r : Nat) : Int))
            simp only [List.set_cons_zero, List.set_cons_succ] at S6
            have S7 := Lib.hid (S6.pick [1, 1] rfl)
            clear S6
            go_wp2_with fail
            go_roundw
            case rel =>
              refine ⟨q + 1, _, by omega, by first | rfl | simp, rfl, ?_⟩
              unfold Hid
              rw [hst.out]
              have h := S7.out
              rw [numsA_snoc hFn] at h
              exact h
            case measure => simp [intOf]; omega
          · have hRe := hpp.2 (by omega)
            have hr0 : at_ < 0 := by omega
            have hFold : Hid (R = keepG M ⟨5, za, zb⟩) := by unfold Hid; rw [← hRe]; exact hFold.out
            go_wp2_with fail
            refine hsm.out.mono ?_
            rintro e w3 ⟨rfl, hb3⟩
            have S5 := S4.out.grow hb3
            have d0 := S5.cell (i := 0) rfl (o := 0) rfl
            have d1 := S5.cell (i := 0) rfl (o := 1) rfl
            have d2 := S5.cell (i := 0) rfl (o := 2) rfl
            have S9 := Lib.hid S5
            clear S4 S5 hb3 hsm hRe
            have hRe := hFold.out
            have hk := Lib.hid (l6Keep_any (w0 := w) (.slice aS M.length cS) M ⟨5, za, zb⟩ _ hok.out (by omega) (S9.out.pick [1, 0, 0] rfl))
            rw [← hRe] at hk
            replace hRe := Lib.hid hRe
            go_wp2_with fail
            refine hk.out.mono ?_
            rintro e wk ⟨sv', rfl, S5⟩
            replace S5 := Lib.hid S5
            obtain ⟨aT, cT, rfl⟩ := own_slice (S5.out.own (i := 0) rfl)
            clear hk S9 d0 d1 d2 v0 v1 v2
            have t0 := S5.out.cell (i := 2) rfl (o := q) (numsA_get hlt)
            have t1 := S5.out.frozen (i := 2) rfl q
            have S6 := S5.out.store (i := 2) rfl q (.int .i64 ((R.2 : Nat) : Int))
            simp only [List.set_cons_zero, List.set_cons_succ] at S6
            have S7 := Lib.hid (S6.pick [0, 1] rfl)
            clear S6
            go_wp2_with fail
            go_roundw
            case rel =>
              refine ⟨q + 1, _, by omega, by first | rfl | simp, rfl, ?_⟩
              unfold Hid
              rw [hst.out]
              have h := S7.out
              rw [numsA_snoc hFn] at h
              exact h
            case measure => simp [intOf]; omega
        rw [if_neg h5] at hFold
        by_cases h6 : zk = 6
        · subst h6
          rw [if_pos rfl] at hFold
          have hza : 0 ≤ za ∧ za < M.length := by have := hzi.out; omega
          have hzb : 0 ≤ zb ∧ zb < M.length := by have := hzi.out; omega
          obtain ⟨A', c', e', hM⟩ := gt_own (S4.out.own (i := 1) rfl) hok.out
          cases e'
          have hsm := Lib.hid (l6Same_any aS cS M ⟨6, za, zb⟩ 2 3 _ hM hza hzb)
          have hpp := hps.out 2 3 hza.1 hzb.1
          generalize sameR M ⟨6, za, zb⟩ 2 3 = at_ at hsm hpp
          clear hM
          by_cases hat : 0 ≤ at_
          · obtain ⟨r, rfl⟩ : ∃ r : Nat, at_ = r := ⟨at_.toNat, by omega⟩
            have hRe := hpp.1 hat
            rw [← hFold.out, Int.toNat_natCast] at hRe
            subst hRe
            have hr0 : ¬ (r : Int) < 0 := by omega
            go_wp2_with fail
            refine hsm.out.mono ?_
            rintro e w3 ⟨rfl, hb3⟩
            have S5 := Lib.hid (S4.out.grow hb3)
            clear S4 hb3 hsm d0 d1 d2 v0 v1 v2
            have t0 := S5.out.cell (i := 2) rfl (o := q) (numsA_get hlt)
            have t1 := S5.out.frozen (i := 2) rfl q
            have S6 := S5.out.store (i := 2) rfl q (.int .i64 ((r : Nat) : Int))
            simp only [List.set_cons_zero, List.set_cons_succ] at S6
            have S7 := Lib.hid (S6.pick [1, 1] rfl)
            clear S6
            go_wp2_with fail
            go_roundw
            case rel =>
              refine ⟨q + 1, _, by omega, by first | rfl | simp, rfl, ?_⟩
              unfold Hid
              rw [hst.out]
              have h := S7.out
              rw [numsA_snoc hFn] at h
              exact h
            case measure => simp [intOf]; omega
          · have hRe := hpp.2 (by omega)
            have hr0 : at_ < 0 := by omega
            have hFold : Hid (R = keepG M ⟨6, za, zb⟩) := by unfold Hid; rw [← hRe]; exact hFold.out
            go_wp2_with fail
            refine hsm.out.mono ?_
            rintro e w3 ⟨rfl, hb3⟩
            have S5 := S4.out.grow hb3
            have d0 := S5.cell (i := 0) rfl (o := 0) rfl
            have d1 := S5.cell (i := 0) rfl (o := 1) rfl
            have d2 := S5.cell (i := 0) rfl (o := 2) rfl
            have S9 := Lib.hid S5
            clear S4 S5 hb3 hsm hRe
            have hRe := hFold.out
            have hk := Lib.hid (l6Keep_any (w0 := w) (.slice aS M.length cS) M ⟨6, za, zb⟩ _ hok.out (by omega) (S9.out.pick [1, 0, 0] rfl))
            rw [← hRe] at hk
            replace hRe := Lib.hid hRe
            go_wp2_with fail
            refine hk.out.mono ?_
            rintro e wk ⟨sv', rfl, S5⟩
            replace S5 := Lib.hid S5
            obtain ⟨aT, cT, rfl⟩ := own_slice (S5.out.own (i := 0) rfl)
            clear hk S9 d0 d1 d2 v0 v1 v2
            have t0 := S5.out.cell (i := 2) rfl (o := q) (numsA_get hlt)
            have t1 := S5.out.frozen (i := 2) rfl q
            have S6 := S5.out.store (i := 2) rfl q (.int .i64 ((R.2 : Nat) : Int))
            simp only [List.set_cons_zero, List.set_cons_succ] at S6
            have S7 := Lib.hid (S6.pick [0, 1] rfl)
            clear S6
            go_wp2_with fail
            go_roundw
            case rel =>
              refine ⟨q + 1, _, by omega, by first | rfl | simp, rfl, ?_⟩
              unfold Hid
              rw [hst.out]
              have h := S7.out
              rw [numsA_snoc hFn] at h
              exact h
            case measure => simp [intOf]; omega
        rw [if_neg h6] at hFold
        have hRe := hFold.out
        have hk := Lib.hid (l6Keep_any (w0 := w) (.slice aS M.length cS) M ⟨zk, za, zb⟩ _ hok.out (by omega) (S4.out.pick [1, 0, 0] rfl))
        rw [← hRe] at hk
        replace hRe := Lib.hid hRe
        go_wp2_with fail
        refine hk.out.mono ?_
        rintro e wk ⟨sv', rfl, S5⟩
        replace S5 := Lib.hid S5
        obtain ⟨aT, cT, rfl⟩ := own_slice (S5.out.own (i := 0) rfl)
        clear hk S4 d0 d1 d2 v0 v1 v2
        have t0 := S5.out.cell (i := 2) rfl (o := q) (numsA_get hlt)
        have t1 := S5.out.frozen (i := 2) rfl q
        have S6 := S5.out.store (i := 2) rfl q (.int .i64 ((R.2 : Nat) : Int))
        simp only [List.set_cons_zero, List.set_cons_succ] at S6
        have S7 := Lib.hid (S6.pick [0, 1] rfl)
        clear S6
        go_wp2_with fail
        go_roundw
        case rel =>
          refine ⟨q + 1, _, by omega, by first | rfl | simp, rfl, ?_⟩
          unfold Hid
          rw [hst.out]
          have h := S7.out
          rw [numsA_snoc hFn] at h
          exact h
        case measure => simp [intOf]; omega
      · obtain rfl : q = gs.length := by omega
        have hF := finv gs hg.out
        rw [List.take_length] at hS
        have hR : foldR gs = trimG (cutK (foldsG gs) gs.length) (needL (cutK (foldsG gs) gs.length)) := rfl
        unfold cutK at hR
        generalize foldsG gs = s at hS hF hR
        obtain ⟨M, B⟩ := s
        have hFl := hF.len
        have hFt := hF.lt (gs.length - 1) (by omega)
        have hFo := hF.ok
        dsimp only at hFl hFt hFo hR hS
        obtain ⟨A', c', e', hM⟩ := gt_own (hS.out.own (i := 0) rfl) (gt_small hFo hv (by omega))
        cases e'
        have hcap := own_cap (hS.out.own (i := 0) rfl)
        obtain ⟨mb, mo, rfl, -, -, -⟩ := hM.at_ 0 (by omega)
        obtain ⟨x, hx⟩ : ∃ x, B.getD (gs.length - 1) 0 = x := ⟨_, rfl⟩
        have t0 := hS.out.cell (i := 1) rfl (o := gs.length - 1) (numsA_get (by omega))
        rw [hx] at hFt hR t0
        obtain ⟨m, hm⟩ : ∃ m, gs.length - 1 = m := ⟨_, rfl⟩
        rw [hm] at t0
        have hmi : (m : Int) < gs.length := by omega
        have hw1 : IntKind.i64.wrap ((gs.length : Int) - 1) = (m : Int) := by rw [show (gs.length : Int) - 1 = m by omega]; exact IntWalk.i64_in _ (by omega)
        have hw2 : IntKind.i64.wrap ((x : Int) + 1) = ((x + 1 : Nat) : Int) := by rw [show (x : Int) + 1 = ((x + 1 : Nat) : Int) by omega]; exact IntWalk.i64_in _ (by omega)
        have hxc : (x : Int) + 1 ≤ cS := by omega
        have hx0 : (0 : Int) ≤ (x : Int) + 1 := by omega
        have htl : (M.take (x + 1)).length = x + 1 := by rw [List.length_take]; omega
        have htr := l6Trim_any (some ⟨mb, mo, none⟩) cS (M.take (x + 1)) wr (hM.take (x + 1)) (hFo.take _) (by omega) (by omega) hv
        rw [htl, ← hR] at htr
        replace htr := Lib.hid htr
        replace hm := Lib.hid hm
        replace hS := Lib.hid (Sp.of_below hS.out.below)
        clear hF hFt hFo hR hM htl hz3
        go_wp2_with fail
        refine htr.out.mono ?_
        rintro e w2 ⟨u, rfl, S4⟩
        have S5 := Lib.hid (hS.out.seq S4)
        clear htr hS S4
        go_wp2_with fail
        go_ret
        exact ⟨_, rfl, S5.out⟩
      end Go.Proofs.Ytkhopkonddgicaa
