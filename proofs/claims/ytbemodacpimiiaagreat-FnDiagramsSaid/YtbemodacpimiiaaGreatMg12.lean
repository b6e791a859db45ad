/- Lemmas and contracts for a law, put together out of several texts: DgT. -/
import Derived.Test.YtbemodacpimiiaaGreatMg11
import Derived.Test.YtbemodacpimiiaaGreatMg7
import Derived.Deep.CutBlock
/- Contracts: diagrams that are drawn. -/
namespace Go.Proofs.YtbemodacpimiiaaGreat
open Go.RowKit

/-- Nodes as they are drawn. -/
def DrOk (ns : List Nd) : Prop := ∀ i (h : i < ns.length), (1 ≤ ns[i].v ∧ ns[i].v ≤ 6) ∧ (0 ≤ ns[i].lo ∧ ns[i].lo ≤ i + 1) ∧ (0 ≤ ns[i].hi ∧ ns[i].hi ≤ i + 1)
theorem DrOk.wk {ns : List Nd} (h : DrOk ns) : WkN ns := fun i hi => ⟨(h i hi).1.1, (h i hi).2⟩
theorem DrOk.small {ns : List Nd} (h : DrOk ns) (hl : ns.length ≤ 1000) : ∀ x ∈ ns, ndOk x := by
  intro x hx
  obtain ⟨i, hi, rfl⟩ := List.getElem_of_mem hx
  obtain ⟨h1, h2, h3⟩ := h i hi
  unfold ndOk I64
  omega
theorem DrOk.snoc {ns : List Nd} {n : Nd} (h : DrOk ns) (hv : 1 ≤ n.v ∧ n.v ≤ 6) (hl : 0 ≤ n.lo ∧ n.lo ≤ ns.length + 1) (hh : 0 ≤ n.hi ∧ n.hi ≤ ns.length + 1) : DrOk (ns ++ [n]) := by
  intro i hi
  rw [List.length_append, List.length_singleton] at hi
  by_cases hlt : i < ns.length
  · rw [List.getElem_append_left hlt]; exact h i hlt
  · obtain rfl : i = ns.length := by omega
    simp only [List.getElem_concat_length]
    exact ⟨hv, hl, hh⟩
theorem dg_dr {n : Nat} (hn : n ≤ 6) (f : Nat → Bool) : DrOk (dgN n f) := fun i hi => by
  obtain ⟨h1, h2, h3, _⟩ := (ndB_get hi).1 ((dg_made n f).ok i hi)
  exact ⟨⟨h1.1, by omega⟩, h2, h3⟩

/-- What is in memory while a diagram is drawn. -/
abbrev DS (w0 : World) (g : Nat) (ca : Option Addr) (cl cc A : Nat) (w : World) (db rb : Nat) (rt : Int) (B : Option Addr) (c : Nat) (ns : List Nd) : Prop :=
  CS w0 g ca cl cc A w [Box db 26 #[.int .i64 rt, .slice B ns.length c], Own 71 3 (.slice B ns.length c) ns.length (ns.flatMap ndEnc), Box rb 26 #[.int .i64 0, .slice none 0 0]]
abbrev DN (w0 : World) (g : Nat) (ca : Option Addr) (cl cc A : Nat) (w : World) (db rb : Nat) (rt : Int) (B : Option Addr) (c : Nat) (ns : List Nd) (nb : Nat) (v lo hi : Int) : Prop :=
  CS w0 g ca cl cc A w [Box nb 71 #[.int .i64 v, .int .i64 lo, .int .i64 hi], Box db 26 #[.int .i64 rt, .slice B ns.length c], Own 71 3 (.slice B ns.length c) ns.length (ns.flatMap ndEnc), Box rb 26 #[.int .i64 0, .slice none 0 0]]
/-- A diagram that is drawn. -/
def DrawPost (A g : Nat) (ca : Option Addr) (cl cc : Nat) (w : World) (e : Ending) (w' : World) : Prop :=
  ∃ r ns B c, e = .returned (dgV r (.slice B ns.length c)) ∧ I64 r ∧ ns.length ≤ 64 ∧ NdAt w' B ns ∧ (∀ a, B = some a → w.heap.size ≤ a.block) ∧ CurIs A g ca cl cc w' ∧ Chg [g] w w'

/-- The length of the slice that lies in a diagram. -/
def lenAt (w : World) (b : Nat) : Nat := match w.cell? ⟨b, 1, none⟩ with | some (.slice _ n _) => n | _ => 0
theorem lenAt_of {w : World} {b n c : Nat} {B : Option Addr} (h : w.cell? ⟨b, 1, none⟩ = some (.slice B n c)) : lenAt w b = n := by simp [lenAt, h]
def mostI (a b : Int) : Int := if b < a then a else b
theorem l1Most_any (a b : Int) (w : World) : Calls Tryz.prog 82 #[.int .i64 a, .int .i64 b] w fun e w' => e = .returned (.int .i64 (mostI a b)) ∧ w = w' := by
  unfold mostI
  by_cases h : b < a
  · rw [if_pos h]
    go_enter Tryz.func82, Tryz.ntmps82
    go_wp2_with fail
    go_ret
    exact ⟨rfl, rfl⟩
  · rw [if_neg h]
    go_enter Tryz.func82, Tryz.ntmps82
    go_wp2_with fail
    go_ret
    exact ⟨rfl, rfl⟩

set_option maxRecDepth 100000 in
set_option maxHeartbeats 16000000 in
theorem cur_diagram (vars : Int) (hv : -1 ≤ vars ∧ vars ≤ 7) (A g : Nat) (ca : Option Addr) (cl cc : Nat) (w : World) (h : CurIs A g ca cl cc w) (hA : A ≤ 50000000) :
    Calls Tryz.prog 99 #[.pointer (some ⟨g, 0, none⟩), .int .i64 vars] w (DrawPost (A + 1000) g ca cl cc w) := by
  have hg := h.lt
  have S0 := Lib.hid ((CS.start h).alloc_box #[.int .i64 0, .slice none 0 0] 26)
  cases h6 : inB vars 0 6
  · go_enter Tryz.func99, Tryz.ntmps99
    go_wp2_with (go_at_call 72; refine (l26Vars_any _ _).mono ?_; rw [h6]; rintro e w1 ⟨rfl, rfl⟩)
    refine (cur_pick_at (lo := 0) (hi := 1) S0.out.cur (by omega) (by omega) (by omega) (by omega) (by omega)).mono ?_
    rintro e w1 ⟨_, ⟨x, hx0, hx1, rfl⟩, rfl, hi1, hc1⟩
    have S1 := S0.out.turn hi1 hc1
    have r0 := S1.cell (i := 0) rfl (o := 0) rfl
    have r1 := S1.cell (i := 0) rfl (o := 1) rfl
    have f0 := S1.frozen (i := 0) rfl 0
    have f1 := S1.frozen (i := 0) rfl 1
    have S2 := (S1.store (i := 0) rfl 0 (.int .i64 x)).store (i := 0) rfl 1 (.slice none 0 0)
    have j0 := S2.cell (i := 0) rfl (o := 0) rfl
    have j1 := S2.cell (i := 0) rfl (o := 1) rfl
    have hC := Lib.hid S2.chg
    have hI := Lib.hid (S2.cur.mono (show A + 2 ≤ A + 1000 by omega))
    clear S0 S1 S2 hi1 hc1
    go_wp2_with fail
    exact bodyPost_ret (v := .agg #[.int .i64 x, .slice none 0 0]) (by simp [results, Tryz.results99, go_sem, j0, j1]) rfl ⟨x, [], none, 0, rfl, by unfold I64; omega, by simp, .nil _, (fun a e => by cases e), hI.out, hC.out⟩
  obtain ⟨n, rfl⟩ := Int.eq_ofNat_of_zero_le (inB_def.1 h6).1
  have hn : n ≤ 6 := by have := (inB_def.1 h6).2; omega
  go_enter Tryz.func99, Tryz.ntmps99
  go_wp2_with (go_at_call 72; refine (l26Vars_any _ _).mono ?_; rw [h6]; rintro e w1 ⟨rfl, rfl⟩)
  refine (cur_pick_at (lo := 0) (hi := 1) S0.out.cur (by omega) (by omega) (by omega) (by omega) (by omega)).mono ?_
  rintro e w1 ⟨_, ⟨rt0, hx0, hx1, rfl⟩, rfl, hi1, hc1⟩
  have S1 := ((S0.out.turn hi1 hc1).own_made 71 3).alloc_box #[.int .i64 rt0, .slice (some ⟨w1.heap.size, 0, none⟩) 0 0] 26
  simp only [World.size_alloc] at S1
  have hg1 := hi1.lt
  have S2 := Lib.hid (S1.alloc (.cells #[.int .i64 1, .int .i64 2, .int .i64 3, .int .i64 4, .int .i64 5, .int .i64 0] 3))
  have hcall := Lib.hid (cur_among 0 5 (w1.heap.size + 1 + 1) 0 6 6 (A + 2) g ca cl cc _ S2.out.cur (by omega) (by decide) (by decide) (ints_new (by simp) fun j hj => by
    match j, hj with
    | 0, _ => exact ⟨_, rfl, by decide, by decide⟩
    | 1, _ => exact ⟨_, rfl, by decide, by decide⟩
    | 2, _ => exact ⟨_, rfl, by decide, by decide⟩
    | 3, _ => exact ⟨_, rfl, by decide, by decide⟩
    | 4, _ => exact ⟨_, rfl, by decide, by decide⟩
    | 5, _ => exact ⟨_, rfl, by decide, by decide⟩) (by omega))
  clear S0 S1 hi1 hc1
  go_wp2_with fail
  refine hcall.out.mono ?_
  rintro e w2 ⟨_, ⟨m0, hm0, hm1, rfl⟩, rfl, hi2, hc2⟩
  have S3 := S2.out.turn hi2 hc2
  generalize hdb : w1.heap.size + 1 = db at *
  obtain ⟨m, rfl⟩ := Int.eq_ofNat_of_zero_le hm0
  have HS0 : Hid (DS w g ca cl cc (A + 20) w2 db w.heap.size rt0 (some ⟨w1.heap.size, 0, none⟩) 0 []) := S3.mono (by omega)
  clear S2 S3 hcall hi2 hc2
  go_wp2_with fail
  go_loopw [6, 7] (fun vn _ wr => ∃ (m : Nat) (ns : List Nd) (rt : Int) (B : Option Addr) (c : Nat), ns.length + m ≤ 5 ∧ vn = .int .i64 m ∧ Hid (DrOk ns) ∧ 0 ≤ rt ∧ rt ≤ ns.length + 1 ∧ Hid (DS w g ca cl cc (A + 20 + 20 * ns.length) wr db w.heap.size rt B c ns)) (fun vn _ _ => (intOf vn).toNat)
  case atStart => exact ⟨m, [], rt0, _, _, by simp; omega, rfl, fun i hi => by simp at hi, hx0, by simp; omega, HS0⟩
  case round =>
    obtain ⟨m, ns, rt, B, c, hkm, rfl, HD, hrt0, hrt1, HS⟩ := hrel
    clear HS0
    go_upto_region 5 with fail
    go_cut [26] (fun s wx => ∃ q : Bool, s = .bool q ∧ Hid (q = true → 0 < m ∧ 0 < n) ∧ Hid (DS w g ca cl cc (A + 20 + 20 * ns.length) wx db w.heap.size rt B c ns))
    case first =>
      have hcond : (0 < m ∧ 0 < n) ∨ ¬ 0 < m ∨ (0 < m ∧ ¬ 0 < n) := by omega
      rcases hcond with ⟨hm, hn0⟩ | hm | ⟨hm, hn0⟩
      · have d1 : decide ((0 : Int) < (m : Int)) = true := decide_eq_true (by omega)
        have d2 : decide ((0 : Int) < (n : Int)) = true := decide_eq_true (by omega)
        go_wp2_with fail
        go_meet
        exact ⟨true, rfl, fun _ => ⟨hm, hn0⟩, HS⟩
      · have d1 : decide ((0 : Int) < (m : Int)) = false := decide_eq_false (by omega)
        go_wp2_with fail
        go_meet
        exact ⟨false, rfl, (fun e => by cases e), HS⟩
      · have d1 : decide ((0 : Int) < (m : Int)) = true := decide_eq_true (by omega)
        have d2 : decide ((0 : Int) < (n : Int)) = false := decide_eq_false (by omega)
        go_wp2_with fail
        go_meet
        exact ⟨false, rfl, (fun e => by cases e), HS⟩
    case rest =>
    clear HS
    obtain ⟨q, rfl, hq, HS⟩ := hcut
    cases q
    · clear hq
      have hcur := Lib.hid HS.out.cur
      go_wp2_with fail
      refine (cur_one 2 _ g ca cl cc _ hcur.out (by omega) (by omega)).mono ?_
      rintro e w3 ⟨_, ⟨q, rfl⟩, rfl, hi3, hc3⟩
      have S3 := Lib.hid (HS.out.turn hi3 hc3)
      clear HS hcur hi3 hc3
      go_upto_if 116 with fail
      go_cut [] (fun wx => ∃ (ns : List Nd) (rt : Int) (B : Option Addr) (c : Nat), ns.length ≤ 63 ∧ Hid (DrOk ns) ∧ 0 ≤ rt ∧ rt ≤ ns.length + 1 ∧ Hid (DS w g ca cl cc (A + 200) wx db w.heap.size rt B c ns))
      case first =>
        as_aux_lemma =>
          cases q
          · go_wp2_with fail
            go_meet
            exact ⟨ns, rt, B, c, by omega, HD, hrt0, hrt1, S3.out.mono (by omega)⟩
          · obtain ⟨B', c', e', hN⟩ := nd_own (S3.out.own (i := 1) rfl) (HD.out.small (by omega))
            cases e'
            have l0 := S3.out.cell (i := 0) rfl (o := 0) rfl
            have l1 := S3.out.cell (i := 0) rfl (o := 1) rfl
            have hval := Lib.hid (l26Values_any n hn rt B c ns _ hN (by omega) HD.out.wk hrt0 hrt1)
            have hof := Lib.hid (fun A c W h => l26OfS_any n hn (valD rt ns) A c W h)
            have hdl := dg_len (vars := n) (valD rt ns) hn
            have hdr := Lib.hid (dg_dr hn (valD rt ns))
            have hd0 : 0 ≤ dgR n (valD rt ns) ∧ dgR n (valD rt ns) ≤ (dgN n (valD rt ns)).length + 1 := ⟨(dg_made n (valD rt ns)).r0, (dg_made n (valD rt ns)).r1⟩
            generalize dgR n (valD rt ns) = rr at *
            generalize dgN n (valD rt ns) = nn at *
            generalize 2 ^ n = N at *
            clear hN
            go_wp2_with fail
            refine hval.out.mono ?_
            rintro e w4 ⟨A4, c4, rfl, T4⟩
            obtain ⟨A4', c4', e4, hb4⟩ := bl_own (T4.own (i := 0) rfl)
            cases e4
            have S4 := Lib.hid (S3.out.grow T4.below)
            have hof2 := Lib.hid (hof.out _ c4 _ hb4)
            clear S3 hval hof T4 hb4 l0 l1
            go_wp2_with fail
            refine hof2.out.mono ?_
            rintro e w5 ⟨B5, c5, rfl, T5⟩
            have S5 := (S4.out.seq T5).swap.third
            have r0 := S5.cell (i := 0) rfl (o := 0) rfl
            have r1 := S5.cell (i := 0) rfl (o := 1) rfl
            have f0 := S5.frozen (i := 0) rfl 0
            have f1 := S5.frozen (i := 0) rfl 1
            have S6 := Lib.hid ((S5.store (i := 0) rfl 0 (.int .i64 rr)).store (i := 0) rfl 1 (.slice B5 nn.length c5))
            clear S4 S5 hof2 T5
            go_wp2_with fail
            go_meet
            exact ⟨nn, rr, B5, c5, by omega, hdr, hd0.1, hd0.2, S6.out.mono (by omega)⟩
      case rest =>
      clear HD S3 hkm hrt0 hrt1
      obtain ⟨ns, rt, B, c, hl, HD, hrt0, hrt1, HS⟩ := hcut
      have hcur := Lib.hid HS.out.cur
      go_wp2_with fail
      refine (cur_pick_at (lo := 0) (hi := 23) hcur.out (by omega) (by omega) (by omega) (by omega) (by omega)).mono ?_
      rintro e w3 ⟨_, ⟨x, hx0', hx1', rfl⟩, rfl, hi3, hc3⟩
      have S3 := Lib.hid (HS.out.turn hi3 hc3)
      clear HS hcur hi3 hc3
      go_upto_block 2 with fail
      go_cut [] (fun wx => ∃ (ns : List Nd) (rt : Int) (B : Option Addr) (c : Nat), ns.length ≤ 64 ∧ Hid (∀ y ∈ ns, ndOk y) ∧ Hid (I64 rt) ∧ Hid (DS w g ca cl cc (A + 900) wx db w.heap.size rt B c ns))
      case first =>
        have hok := Lib.hid (HD.out.small (by omega))
        have hrt : Hid (I64 rt) := by unfold Hid I64; omega
        have hlw : IntKind.i64.wrap ((ns.length : Int) + 2) = (ns.length : Int) + 2 := IntWalk.i64_in _ (by omega)
        have hnw : IntKind.i64.wrap ((n : Int) + 1) = (n : Int) + 1 := IntWalk.i64_in _ (by omega)
        have hg3 : g < w3.heap.size := S3.out.cur.lt
        have l1 := S3.out.cell (i := 0) rfl (o := 1) rfl
        have hx5 : x = 0 ∨ x = 1 ∨ x = 2 ∨ x = 3 ∨ 3 < x := by omega
        rcases hx5 with rfl | rfl | rfl | rfl | hx5
        · have hcall := Lib.hid (cur_among (-1) 66 w3.heap.size 0 3 3 (A + 202) g ca cl cc _ (S3.out.alloc (.cells #[.int .i64 (-1), .int .i64 ((ns.length : Int) + 2), .int .i64 0] 3)).cur (by omega) (by decide) (by decide) (ints_new rfl fun j hj => by
            match j, hj with
            | 0, _ => exact ⟨_, rfl, by decide, by decide⟩
            | 1, _ => exact ⟨_, rfl, by omega, by omega⟩
            | 2, _ => exact ⟨_, rfl, by decide, by decide⟩) (by omega))
          go_wp2_with fail
          refine hcall.out.mono ?_
          rintro e w4 ⟨_, ⟨z, hz0, hz1, rfl⟩, rfl, hi4, hc4⟩
          have S4 := (S3.out.alloc _).turn hi4 hc4
          have r0 := S4.cell (i := 0) rfl (o := 0) rfl
          have f0 := S4.frozen (i := 0) rfl 0
          have S5 := Lib.hid (S4.store (i := 0) rfl 0 (.int .i64 z))
          clear S3 S4 hcall hi4 hc4 l1
          go_wp2_with fail
          go_meet
          exact ⟨ns, z, B, c, by omega, hok, by unfold Hid I64; omega, S5.out.mono (by omega)⟩
        · as_aux_lemma =>
            by_cases hl0 : 0 < ns.length
            · have d0 : decide ((0 : Int) < (ns.length : Int)) = true := decide_eq_true (by omega)
              obtain ⟨gx, cap, cur, e1, -, hh, -, -, -, ht⟩ := own_block (S3.out.own (i := 1) rfl) hl0
              simp only [Value.slice.injEq] at e1
              obtain ⟨rfl, -, rfl⟩ := e1
              go_wp2_with fail
              refine wp_region_tail_lit (S := (fun w' => w'.cell? ⟨db, 1, none⟩ = some (.slice (some ⟨gx, 0, none⟩) ns.length c))) 7 [false, false, false, false, false, false, false, false, false, false] (by kernel_rfl) (by kernel_rfl) (by kernel_rfl) ?_ ?_
              · exact l1
              intro hS
              (refine walkT_take (i := 0) (v := ?_) rfl (by kernel_rfl) (by decide) (by kernel_rfl) (by kernel_rfl) (fun _ _ _ h => h) (Or.inl ⟨by rfl, ?_⟩) (by assumption) ?_; rotate_left; (focus (intro w hSw; (try dsimp only at hSw); go_simp; (try with_reducible rfl); done)); (try simp only [put_rules]))
              (refine walkT_take (i := 1) (v := ?_) rfl (by kernel_rfl) (by decide) (by kernel_rfl) (by kernel_rfl) (fun _ _ _ h => h) (Or.inl ⟨by rfl, ?_⟩) (by assumption) ?_; rotate_left; (focus (intro w hSw; (try dsimp only at hSw); go_simp; (try with_reducible rfl); done)); (try simp only [put_rules]))
              (refine walkT_take (i := 2) (v := ?_) rfl (by kernel_rfl) (by decide) (by kernel_rfl) (by kernel_rfl) (fun _ _ _ h => h) (Or.inl ⟨by rfl, ?_⟩) (by assumption) ?_; rotate_left; (focus (intro w hSw; (try dsimp only at hSw); go_simp; (try with_reducible rfl); done)); (try simp only [put_rules]))
              (refine walkT_take (i := 3) (v := ?_) rfl (by kernel_rfl) (by decide) (by kernel_rfl) (by kernel_rfl) (fun _ _ _ h => h) (Or.inl ⟨by rfl, ?_⟩) (by assumption) ?_; rotate_left; (focus (intro w hSw; (try dsimp only at hSw); go_simp; (try with_reducible rfl); done)); (try simp only [put_rules]))
              (refine walkT_take (i := 4) (v := ?_) rfl (by kernel_rfl) (by decide) (by kernel_rfl) (by kernel_rfl) (fun _ _ _ h => h) (Or.inl ⟨by rfl, ?_⟩) (by assumption) ?_; rotate_left; (focus (intro w hSw; (try dsimp only at hSw); go_simp; (try with_reducible rfl); done)); (try simp only [put_rules]))
              (refine walkT_ready (rs := [5]) (by kernel_rfl) (by simp) (by decide) ?_; refine AllT.cons rfl (fun K hK => ?_) AllT.nil)
              go_simp
              have S4 := Lib.hid (S3.out.drew.alloc (.cells #[.int .i64 0, .int .i64 ((n : Int) + 1), .int .i64 (-9223372036854775808)] 3))
              refine hK.out _ _ (S4.out.cell (i := 0) rfl (o := 1) rfl) (fun hS2 => ?_)
              clear hK hS
              (try simp only [put_rules])
              (refine walkT_ready (rs := [6]) (by kernel_rfl) (by simp) (by decide) ?_; refine AllT.cons rfl (fun K hK => ?_) AllT.nil)
              go_simp
              go_at_call 59
              refine (cur_among (-9223372036854775808) 7 _ 0 3 3 (A + 202) g ca cl cc _ S4.out.cur (by omega) (by decide) (by decide) (ints_new rfl fun j hj => by
                match j, hj with
                | 0, _ => exact ⟨_, rfl, by decide, by decide⟩
                | 1, _ => exact ⟨_, rfl, by omega, by omega⟩
                | 2, _ => exact ⟨_, rfl, by decide, by decide⟩) (by simp; omega)).mono ?_
              rintro e w4 ⟨_, ⟨z, hz0, hz1, rfl⟩, rfl, hi4, hc4⟩
              have S5 := S4.out.turn hi4 hc4
              have l5 := S5.cell (i := 0) rfl (o := 1) rfl
              obtain ⟨g', cap', cur', e1, -, hh', -, -, -, ht'⟩ := own_block (S5.own (i := 1) rfl) hl0
              simp only [Value.slice.injEq, Option.some.injEq, Addr.mk.injEq] at e1
              obtain ⟨⟨rfl, -⟩, -, rfl⟩ := e1
              have hcx := (own_at hh' ht' (o := 0) (by omega)).1
              have hfx := (own_at hh' ht' (o := 0) (by omega)).2
              have S6 := S5.own_put (i := 1) rfl (.int .i64 z) (o := 0) (by omega)
              obtain ⟨ns', hns⟩ : ∃ ns' : List Nd, ns'.length = ns.length ∧ (ns.flatMap ndEnc).set 0 (.int .i64 z) = ns'.flatMap ndEnc ∧ (∀ y ∈ ns', ndOk y) := by
                have hok' := hok.out
                cases ns with
                | nil => simp at hl0
                | cons a l =>
                  refine ⟨⟨z, a.lo, a.hi⟩ :: l, rfl, rfl, fun y hy => ?_⟩
                  rcases List.mem_cons.1 hy with rfl | hy
                  · have := hok' a (by simp)
                    unfold ndOk I64 at this ⊢
                    simp only
                    omega
                  · exact hok' y (by simp [hy])
              obtain ⟨hn1, hn2, hn3⟩ := hns
              have S7 : Hid (DS w g ca cl cc (A + 900) (w4.setCell ⟨gx, 0, none⟩ (.int .i64 z)) db w.heap.size rt (some ⟨gx, 0, none⟩) c ns') := by
                unfold Hid DS
                rw [hn1, ← hn2]
                exact S6.mono (by omega)
              obtain ⟨u, hu⟩ : ∃ u, (ns.flatMap ndEnc)[0]? = some u := by
                have := flat_len (enc := ndEnc) (n := 3) (fun _ => rfl) ns
                exact ⟨_, List.getElem?_eq_getElem (by omega)⟩
              rw [hu] at hcx
              replace hn3 := Lib.hid hn3
              replace hn1 := Lib.hid hn1
              go_wp2_with fail
              refine hK.out _ _ l5 (fun hS3 => ?_)
              clear hK hS2 hh hh' ht ht' S3 S4 S5 S6 hi4 hc4 hn2 hu
              (try simp only [put_rules])
              (refine walkT_done (by kernel_rfl) ?_)
              simp only [List.drop_succ_cons, List.drop_zero]
              go_wp2_with fail
              go_meet
              exact ⟨ns', rt, _, c, by rw [hn1.out]; omega, hn3, hrt, S7⟩
            · have d0 : decide ((0 : Int) < (ns.length : Int)) = false := decide_eq_false (by omega)
              go_wp2_with fail
              go_meet
              exact ⟨ns, rt, B, c, by omega, hok, hrt, S3.out.mono (by omega)⟩
        · as_aux_lemma =>
            by_cases hl0 : 0 < ns.length
            · have d0 : decide ((0 : Int) < (ns.length : Int)) = true := decide_eq_true (by omega)
              obtain ⟨gx, cap, cur, e1, -, hh, -, -, -, ht⟩ := own_block (S3.out.own (i := 1) rfl) hl0
              simp only [Value.slice.injEq] at e1
              obtain ⟨rfl, -, rfl⟩ := e1
              go_wp2_with fail
              refine wp_region_tail_lit (S := (fun w' => w'.cell? ⟨db, 1, none⟩ = some (.slice (some ⟨gx, 0, none⟩) ns.length c))) 5 [false, false, false, false, false, false, false, false] (by kernel_rfl) (by kernel_rfl) (by kernel_rfl) ?_ ?_
              · exact l1
              intro hS
              (refine walkT_take (i := 0) (v := ?_) rfl (by kernel_rfl) (by decide) (by kernel_rfl) (by kernel_rfl) (fun _ _ _ h => h) (Or.inl ⟨by rfl, ?_⟩) (by assumption) ?_; rotate_left; (focus (intro w hSw; (try dsimp only at hSw); go_simp; (try with_reducible rfl); done)); (try simp only [put_rules]))
              (refine walkT_take (i := 1) (v := ?_) rfl (by kernel_rfl) (by decide) (by kernel_rfl) (by kernel_rfl) (fun _ _ _ h => h) (Or.inl ⟨by rfl, ?_⟩) (by assumption) ?_; rotate_left; (focus (intro w hSw; (try dsimp only at hSw); go_simp; (try with_reducible rfl); done)); (try simp only [put_rules]))
              (refine walkT_take (i := 2) (v := ?_) rfl (by kernel_rfl) (by decide) (by kernel_rfl) (by kernel_rfl) (fun _ _ _ h => h) (Or.inl ⟨by rfl, ?_⟩) (by assumption) ?_; rotate_left; (focus (intro w hSw; (try dsimp only at hSw); go_simp; (try with_reducible rfl); done)); (try simp only [put_rules]))
              (refine walkT_ready (rs := [3]) (by kernel_rfl) (by simp) (by decide) ?_; refine AllT.cons rfl (fun K hK => ?_) AllT.nil)
              go_simp
              have S4 := Lib.hid (S3.out.drew.alloc (.cells #[.int .i64 (-1), .int .i64 2, .int .i64 70] 3))
              refine hK.out _ _ (S4.out.cell (i := 0) rfl (o := 1) rfl) (fun hS2 => ?_)
              clear hK hS
              (try simp only [put_rules])
              (refine walkT_ready (rs := [4]) (by kernel_rfl) (by simp) (by decide) ?_; refine AllT.cons rfl (fun K hK => ?_) AllT.nil)
              go_simp
              go_at_call 59
              refine (cur_among (-1) 70 _ 0 3 3 (A + 202) g ca cl cc _ S4.out.cur (by omega) (by decide) (by decide) (ints_new rfl fun j hj => by
                match j, hj with
                | 0, _ => exact ⟨_, rfl, by decide, by decide⟩
                | 1, _ => exact ⟨_, rfl, by decide, by decide⟩
                | 2, _ => exact ⟨_, rfl, by decide, by decide⟩) (by simp; omega)).mono ?_
              rintro e w4 ⟨_, ⟨z, hz0, hz1, rfl⟩, rfl, hi4, hc4⟩
              have S5 := S4.out.turn hi4 hc4
              have l5 := S5.cell (i := 0) rfl (o := 1) rfl
              obtain ⟨g', cap', cur', e1, -, hh', -, -, -, ht'⟩ := own_block (S5.own (i := 1) rfl) hl0
              simp only [Value.slice.injEq, Option.some.injEq, Addr.mk.injEq] at e1
              obtain ⟨⟨rfl, -⟩, -, rfl⟩ := e1
              have hcx := (own_at hh' ht' (o := 1) (by omega)).1
              have hfx := (own_at hh' ht' (o := 1) (by omega)).2
              have S6 := S5.own_put (i := 1) rfl (.int .i64 z) (o := 1) (by omega)
              obtain ⟨ns', hns⟩ : ∃ ns' : List Nd, ns'.length = ns.length ∧ (ns.flatMap ndEnc).set 1 (.int .i64 z) = ns'.flatMap ndEnc ∧ (∀ y ∈ ns', ndOk y) := by
                have hok' := hok.out
                cases ns with
                | nil => simp at hl0
                | cons a l =>
                  refine ⟨⟨a.v, z, a.hi⟩ :: l, rfl, rfl, fun y hy => ?_⟩
                  rcases List.mem_cons.1 hy with rfl | hy
                  · have := hok' a (by simp)
                    unfold ndOk I64 at this ⊢
                    simp only
                    omega
                  · exact hok' y (by simp [hy])
              obtain ⟨hn1, hn2, hn3⟩ := hns
              have S7 : Hid (DS w g ca cl cc (A + 900) (w4.setCell ⟨gx, 1, none⟩ (.int .i64 z)) db w.heap.size rt (some ⟨gx, 0, none⟩) c ns') := by
                unfold Hid DS
                rw [hn1, ← hn2]
                exact S6.mono (by omega)
              obtain ⟨u, hu⟩ : ∃ u, (ns.flatMap ndEnc)[1]? = some u := by
                have := flat_len (enc := ndEnc) (n := 3) (fun _ => rfl) ns
                exact ⟨_, List.getElem?_eq_getElem (by omega)⟩
              rw [hu] at hcx
              replace hn3 := Lib.hid hn3
              replace hn1 := Lib.hid hn1
              go_wp2_with fail
              refine hK.out _ _ l5 (fun hS3 => ?_)
              clear hK hS2 hh hh' ht ht' S3 S4 S5 S6 hi4 hc4 hn2 hu
              (try simp only [put_rules])
              (refine walkT_done (by kernel_rfl) ?_)
              simp only [List.drop_succ_cons, List.drop_zero]
              go_wp2_with fail
              go_meet
              exact ⟨ns', rt, _, c, by rw [hn1.out]; omega, hn3, hrt, S7⟩
            · have d0 : decide ((0 : Int) < (ns.length : Int)) = false := decide_eq_false (by omega)
              go_wp2_with fail
              go_meet
              exact ⟨ns, rt, B, c, by omega, hok, hrt, S3.out.mono (by omega)⟩
        · as_aux_lemma =>
            go_wp2_with fail
            go_loopw [] (fun wr => ∃ (ns' : List Nd) (B' : Option Addr) (c' : Nat), ns'.length ≤ 64 ∧ Hid (∀ y ∈ ns', ndOk y) ∧ Hid (DS w g ca cl cc (A + 250 + 4 * ns'.length) wr db w.heap.size rt B' c' ns')) (fun wr => 64 - lenAt wr db)
            case atStart => exact ⟨ns, B, c, by omega, hok, S3.out.mono (by omega)⟩
            case round =>
              obtain ⟨ns', B', c', hl', hok', HS⟩ := hrel
              clear l1 S3 HD
              have l1 := HS.out.cell (i := 0) rfl (o := 1) rfl
              have hm1 : Hid (lenAt wr db = ns'.length) := lenAt_of l1
              go_wp2_with fail
              refine wp_region_held_lit (S := (fun w' => w'.cell? ⟨db, 1, none⟩ = some (.slice B' ns'.length c'))) 11 [false, false, false, false, false, false, false, false, false, false, false] (by kernel_rfl) (by kernel_rfl) (by kernel_rfl) ?_ ?_
              · exact l1
              intro hS
              (refine wpAnyH_take (i := 0) (v := ?_) rfl (by kernel_rfl) (by kernel_rfl) (by kernel_rfl) (fun _ _ _ h => h) (Or.inl ⟨by rfl, ?_⟩) (by assumption) ?_; rotate_left; (focus (intro w hSw; (try dsimp only at hSw); go_simp; (try with_reducible rfl); done)); (try simp only [put_rules]))
              (refine wpAnyH_take (i := 1) (v := ?_) rfl (by kernel_rfl) (by kernel_rfl) (by kernel_rfl) (fun _ _ _ h => h) (Or.inl ⟨by rfl, ?_⟩) (by assumption) ?_; rotate_left; (focus (intro w hSw; (try dsimp only at hSw); go_simp; (try with_reducible rfl); done)); (try simp only [put_rules]))
              (refine wpAnyH_take (i := 2) (v := ?_) rfl (by kernel_rfl) (by kernel_rfl) (by kernel_rfl) (fun _ _ _ h => h) (Or.inl ⟨by rfl, ?_⟩) (by assumption) ?_; rotate_left; (focus (intro w hSw; (try dsimp only at hSw); go_simp; (try with_reducible rfl); done)); (try simp only [put_rules]))
              (refine wpAnyH_take (i := 3) (v := ?_) rfl (by kernel_rfl) (by kernel_rfl) (by kernel_rfl) (fun _ _ _ h => h) (Or.inl ⟨by rfl, ?_⟩) (by assumption) ?_; rotate_left; (focus (intro w hSw; (try dsimp only at hSw); go_simp; (try with_reducible rfl); done)); (try simp only [put_rules]))
              (refine wpAnyH_ready (rs := [4]) (by kernel_rfl) (by simp) ?_; refine AllReadyH.cons rfl (fun K hK => ?_) AllReadyH.nil)
              go_simp
              go_at_call 87
              refine (cur_pick_at (lo := 0) (hi := 1) HS.out.drew.cur (by omega) (by omega) (by omega) (by omega) (by omega)).mono ?_
              rintro e w4 ⟨_, ⟨y, hy0, hy1, rfl⟩, rfl, hi4, hc4⟩
              have S4 := HS.out.drew.turn hi4 hc4
              have l4 := S4.cell (i := 0) rfl (o := 1) rfl
              replace S4 := Lib.hid S4
              clear HS
              go_wp2_with fail
              refine hK.out _ _ l4 (fun hS2 => ?_)
              clear hK hS hi4 hc4
              (try simp only [put_rules])
              have hyw : IntKind.i64.wrap (63 + y) = 63 + y := IntWalk.i64_in _ (by omega)
              (refine wpAnyH_take (i := 5) (v := ?_) rfl (by kernel_rfl) (by kernel_rfl) (by kernel_rfl) (fun _ _ _ h => h) (Or.inl ⟨by rfl, ?_⟩) (by assumption) ?_; rotate_left; (focus (intro w hSw; (try dsimp only at hSw); go_simp; (try with_reducible rfl); done)); (try simp only [put_rules]))
              by_cases hlt : (ns'.length : Int) < 63 + y
              · have d1 : decide ((ns'.length : Int) < 63 + y) = true := decide_eq_true hlt
                (refine wpAnyH_take (i := 6) (v := ?_) rfl (by kernel_rfl) (by kernel_rfl) (by kernel_rfl) (fun _ _ _ h => h) (Or.inl ⟨by rfl, ?_⟩) (by assumption) ?_; rotate_left; (focus (intro w hSw; (try dsimp only at hSw); go_simp; (try with_reducible rfl); done)); (try simp only [put_rules]))
                (refine wpAnyH_take (i := 7) (v := ?_) rfl (by kernel_rfl) (by kernel_rfl) (by kernel_rfl) (fun _ _ _ h => h) (Or.inl ⟨by rfl, ?_⟩) (by assumption) ?_; rotate_left; (focus (intro w hSw; (try dsimp only at hSw); go_simp; (try with_reducible rfl); done)); (try simp only [put_rules]))
                by_cases hn0 : 0 < n
                · have d2 : decide ((0 : Int) < (n : Int)) = true := decide_eq_true (by omega)
                  (refine wpAnyH_take (i := 8) (v := ?_) rfl (by kernel_rfl) (by kernel_rfl) (by kernel_rfl) (fun _ _ _ h => h) (Or.inl ⟨by rfl, ?_⟩) (by assumption) ?_; rotate_left; (focus (intro w hSw; (try dsimp only at hSw); go_simp; (try with_reducible rfl); done)); (try simp only [put_rules]))
                  (refine wpAnyH_take (i := 9) (v := ?_) rfl (by kernel_rfl) (by kernel_rfl) (by kernel_rfl) (fun _ _ _ h => h) (Or.inl ⟨by rfl, ?_⟩) (by assumption) ?_; rotate_left; (focus (intro w hSw; (try dsimp only at hSw); go_simp; (try with_reducible rfl); done)); (try simp only [put_rules]))
                  (refine wpAnyH_take (i := 10) (v := ?_) rfl (by kernel_rfl) (by kernel_rfl) (by kernel_rfl) (fun _ _ _ h => h) (Or.inl ⟨by rfl, ?_⟩) (by assumption) ?_; rotate_left; (focus (intro w hSw; (try dsimp only at hSw); go_simp; (try with_reducible rfl); done)); (try simp only [put_rules]))
                  (refine wpAnyH_done (by kernel_rfl) ?_ _)
                  obtain ⟨i0, hi0, hz0, hz1, hz2⟩ := info_parts infoNd
                  have S5 := S4.out.alloc_box #[.int .i64 n, .int .i64 0, .int .i64 1] 71
                  have hsrc := Src.three (S5.cell (i := 0) rfl (o := 0) rfl) (S5.cell (i := 0) rfl (o := 1) rfl) (S5.cell (i := 0) rfl (o := 2) rfl)
                  replace S5 := Lib.hid S5
                  clear S4
                  go_wp2_with (at_builtin; refine wpList_append_src rfl _ _ rfl Tryz.underlying24 hi0 hz0 hz1 hz2 rfl (by decide) _ ns'.length _ rfl (S5.out.own (i := 2) rfl) _ 1 1 [.int .i64 n, .int .i64 0, .int .i64 1] rfl hsrc (by simp [Value.oneCell']) ?c3 ?c4 ?_)
                  case c3 => unfold maxLen; omega
                  case c4 => omega
                  intro vY wY hownY hgY hatY
                  have S6 := (S5.out.own_push (i := 2) rfl (bb _) hownY hgY (by simpa using hatY)).tail
                  obtain ⟨aY, cY, rfl⟩ := own_slice hownY
                  have b1 := S6.cell (i := 0) rfl (o := 1) rfl
                  have q1 := S6.frozen (i := 0) rfl 1
                  have S7 := S6.store (i := 0) rfl 1 (.slice aY (ns'.length + 1) cY)
                  have hlen : (ns' ++ [(⟨n, 0, 1⟩ : Nd)]).length = ns'.length + 1 := by simp
                  have t1 := S7.cell (i := 0) rfl (o := 1) rfl
                  have hm2 : Hid (lenAt (wY.setCell ⟨db, 1, none⟩ (.slice aY (ns'.length + 1) cY)) db = ns'.length + 1) := lenAt_of t1
                  have hok2 : Hid (∀ y ∈ ns' ++ [(⟨n, 0, 1⟩ : Nd)], ndOk y) := by
                    intro y hy
                    rcases List.mem_append.1 hy with hy | hy
                    · exact hok'.out y hy
                    · obtain rfl : y = ⟨n, 0, 1⟩ := by simpa using hy
                      unfold ndOk I64
                      simp only
                      omega
                  have S9 : Hid (DS w g ca cl cc (A + 250 + 4 * (ns' ++ [(⟨n, 0, 1⟩ : Nd)]).length) (wY.setCell ⟨db, 1, none⟩ (.slice aY (ns'.length + 1) cY)) db w.heap.size rt aY cY (ns' ++ [⟨n, 0, 1⟩])) := by
                    unfold Hid DS
                    rw [hlen, List.flatMap_append]
                    exact S7.mono (by omega)
                  clear S5 S6 S7 hsrc hownY hgY hatY t1
                  replace hlen := Lib.hid hlen
                  go_wp2_with fail
                  go_roundw
                  case rel => exact ⟨_, aY, cY, by rw [hlen.out]; omega, hok2, S9⟩
                  case measure => rw [hm1.out, hm2.out]; omega
                · have d2 : decide ((0 : Int) < (n : Int)) = false := decide_eq_false (by omega)
                  (refine wpAnyH_take (i := 8) (v := ?_) rfl (by kernel_rfl) (by kernel_rfl) (by kernel_rfl) (fun _ _ _ h => h) (Or.inl ⟨by rfl, ?_⟩) (by assumption) ?_; rotate_left; (focus (intro w hSw; (try dsimp only at hSw); go_simp; (try with_reducible rfl); done)); (try simp only [put_rules]))
                  (refine wpAnyH_take (i := 9) (v := ?_) rfl (by kernel_rfl) (by kernel_rfl) (by kernel_rfl) (fun _ _ _ h => h) (Or.inl ⟨by rfl, ?_⟩) (by assumption) ?_; rotate_left; (focus (intro w hSw; (try dsimp only at hSw); go_simp; (try with_reducible rfl); done)); (try simp only [put_rules]))
                  (refine wpAnyH_take (i := 10) (v := ?_) rfl (by kernel_rfl) (by kernel_rfl) (by kernel_rfl) (fun _ _ _ h => h) (Or.inl ⟨by rfl, ?_⟩) (by assumption) ?_; rotate_left; (focus (intro w hSw; (try dsimp only at hSw); go_simp; (try with_reducible rfl); done)); (try simp only [put_rules]))
                  (refine wpAnyH_done (by kernel_rfl) ?_ _)
                  go_wp2_with fail
                  go_meet
                  exact ⟨ns', rt, B', c', hl', hok', hrt, S4.out.mono (by omega)⟩
              · have d1 : decide ((ns'.length : Int) < 63 + y) = false := decide_eq_false hlt
                (refine wpAnyH_take (i := 6) (v := ?_) rfl (by kernel_rfl) (by kernel_rfl) (by kernel_rfl) (fun _ _ _ h => h) (Or.inl ⟨by rfl, ?_⟩) (by assumption) ?_; rotate_left; (focus (intro w hSw; (try dsimp only at hSw); go_simp; (try with_reducible rfl); done)); (try simp only [put_rules]))
                (refine wpAnyH_take (i := 7) (v := ?_) rfl (by kernel_rfl) (by kernel_rfl) (by kernel_rfl) (fun _ _ _ h => h) (Or.inl ⟨by rfl, ?_⟩) (by assumption) ?_; rotate_left; (focus (intro w hSw; (try dsimp only at hSw); go_simp; (try with_reducible rfl); done)); (try simp only [put_rules]))
                (refine wpAnyH_take (i := 8) (v := undef) rfl (by kernel_rfl) (by kernel_rfl) (by kernel_rfl) (fun _ _ _ h => h) (Or.inr ⟨by rfl, rfl⟩) (by assumption) ?_; (try simp only [put_rules]))
                (refine wpAnyH_take (i := 9) (v := undef) rfl (by kernel_rfl) (by kernel_rfl) (by kernel_rfl) (fun _ _ _ h => h) (Or.inr ⟨by rfl, rfl⟩) (by assumption) ?_; (try simp only [put_rules]))
                (refine wpAnyH_take (i := 10) (v := ?_) rfl (by kernel_rfl) (by kernel_rfl) (by kernel_rfl) (fun _ _ _ h => h) (Or.inl ⟨by rfl, ?_⟩) (by assumption) ?_; rotate_left; (focus (intro w hSw; (try dsimp only at hSw); go_simp; (try with_reducible rfl); done)); (try simp only [put_rules]))
                (refine wpAnyH_done (by kernel_rfl) ?_ _)
                go_wp2_with fail
                go_meet
                exact ⟨ns', rt, B', c', hl', hok', hrt, S4.out.mono (by omega)⟩
        · have x0 : (x == 0) = false := by simp; omega
          have x1 : (x == 1) = false := by simp; omega
          have x2 : (x == 2) = false := by simp; omega
          have x3 : (x == 3) = false := by simp; omega
          go_wp2_with fail
          go_meet
          exact ⟨ns, rt, B, c, by omega, hok, hrt, S3.out.mono (by omega)⟩
      case rest =>
      clear S3 HD hl hrt0 hrt1
      obtain ⟨ns, rt, B, c, hl, hok, hrt, HS⟩ := hcut
      obtain ⟨B', c', e', hN⟩ := nd_own (HS.out.own (i := 1) rfl) hok.out
      cases e'
      have hfrom := own_from (HS.out.owns_end (i := 1) rfl)
      obtain ⟨hrb, hrlt, -⟩ := HS.out.box (i := 2) rfl
      have l0 := HS.out.cell (i := 0) rfl (o := 0) rfl
      have l1 := HS.out.cell (i := 0) rfl (o := 1) rfl
      have r0 := HS.out.cell (i := 2) rfl (o := 0) rfl
      have r1 := HS.out.cell (i := 2) rfl (o := 1) rfl
      have f0 := HS.out.frozen (i := 2) rfl 0
      have f1 := HS.out.frozen (i := 2) rfl 1
      have S5 := (HS.out.store (i := 2) rfl 0 (.int .i64 rt)).store (i := 2) rfl 1 (.slice B ns.length c)
      have j0 := S5.cell (i := 2) rfl (o := 0) rfl
      have j1 := S5.cell (i := 2) rfl (o := 1) rfl
      obtain ⟨B5, c5, e5, hN5⟩ := nd_own (S5.own (i := 1) rfl) hok.out
      cases e5
      have hI := Lib.hid (S5.cur.mono (show A + 900 ≤ A + 1000 by omega))
      have hC := Lib.hid S5.chg
      replace hN5 := Lib.hid hN5
      replace hfrom := Lib.hid hfrom
      clear HS S5 hN
      go_wp2_with fail
      exact bodyPost_ret (v := .agg #[.int .i64 rt, .slice B ns.length c]) (by simp [results, Tryz.results99, go_sem, j0, j1]) rfl ⟨rt, ns, B, c, rfl, hrt.out, hl, hN5.out, hfrom.out, hI.out, hC.out⟩
    · obtain ⟨hm, hn0⟩ := hq.out rfl
      clear hq
      have hlw : IntKind.i64.wrap ((ns.length : Int) + 2) = (ns.length : Int) + 2 := IntWalk.i64_in _ (by omega)
      have hlw1 : IntKind.i64.wrap ((ns.length : Int) + 1) = (ns.length : Int) + 1 := IntWalk.i64_in _ (by omega)
      go_wp2_with fail
      refine (cur_pick_at (lo := 0) (hi := (n : Int) - 1) HS.out.cur (by omega) (by omega) (by omega) (by omega) (by omega)).mono ?_
      rintro e w3 ⟨_, ⟨x, hx0, hx1, rfl⟩, rfl, hi3, hc3⟩
      have hxw : IntKind.i64.wrap (1 + x) = 1 + x := IntWalk.i64_in _ (by omega)
      have S3 := (HS.out.turn hi3 hc3).alloc_box #[.int .i64 (1 + x), .int .i64 0, .int .i64 0] 71
      have l1 := S3.cell (i := 1) rfl (o := 1) rfl
      obtain ⟨nb, hnb⟩ : ∃ nb, w3.heap.size = nb := ⟨_, rfl⟩
      rw [hnb] at S3
      replace S3 := Lib.hid S3
      clear HS hi3 hc3
      go_upto_if 37 with fail
      (try rw [hnb])
      go_cut [] (fun wx => ∃ v : Int, 1 ≤ v ∧ v ≤ 6 ∧ Hid (DN w g ca cl cc (A + 24 + 20 * ns.length) wx db w.heap.size rt B c ns nb v 0 0))
      case first =>
        as_aux_lemma =>
          by_cases hk0 : 0 < ns.length
          · have d3 : decide ((0 : Int) < (ns.length : Int)) = true := decide_eq_true (by omega)
            obtain ⟨p, hp⟩ : ∃ p, ns.length = p + 1 := ⟨ns.length - 1, by omega⟩
            have hpl : p < ns.length := by omega
            have hsub : IntKind.i64.wrap ((ns.length : Int) - 1) = (p : Int) := by rw [IntWalk.i64_in _ (by omega)]; omega
            replace hp := Lib.hid hp
            obtain ⟨B', c', e', hN⟩ := nd_own (S3.out.own (i := 2) rfl) (HD.out.small (by omega))
            cases e'
            obtain ⟨bl, off, rfl, m0, -⟩ := hN.at_ p hpl
            obtain ⟨⟨lv0, lv1⟩, -⟩ := HD.out p hpl
            obtain ⟨lv, hlv⟩ : ∃ lv, ns[p].v = lv := ⟨_, rfl⟩
            rw [hlv] at m0 lv0 lv1
            replace hlv := Lib.hid hlv
            have l1 := S3.out.cell (i := 1) rfl (o := 1) rfl
            clear hN
            go_wp2_with fail
            refine wp_region_tail_lit (S := (fun w' => w'.cell? ⟨db, 1, none⟩ = some (.slice (some ⟨bl, off, none⟩) ns.length c) ∧ w'.cell? ⟨bl, off + p * 3, none⟩ = some (.int .i64 lv))) 13 [false, false, false, false, false, false, false, false, false, false, false, false, false, false, false] (by kernel_rfl) (by kernel_rfl) (by kernel_rfl) ?_ ?_
            · exact ⟨l1, m0⟩
            intro hS
            (refine walkT_take (i := 0) (v := ?_) rfl (by kernel_rfl) (by decide) (by kernel_rfl) (by kernel_rfl) (fun _ _ _ h => h) (Or.inl ⟨by rfl, ?_⟩) (by assumption) ?_; rotate_left; (focus (intro w hSw; (try dsimp only at hSw); go_simp; (try with_reducible rfl); done)); (try simp only [put_rules]))
            (refine walkT_take (i := 1) (v := ?_) rfl (by kernel_rfl) (by decide) (by kernel_rfl) (by kernel_rfl) (fun _ _ _ h => h) (Or.inl ⟨by rfl, ?_⟩) (by assumption) ?_; rotate_left; (focus (intro w hSw; (try dsimp only at hSw); go_simp; (try with_reducible rfl); done)); (try simp only [put_rules]))
            (refine walkT_take (i := 2) (v := ?_) rfl (by kernel_rfl) (by decide) (by kernel_rfl) (by kernel_rfl) (fun _ _ _ h => h) (Or.inl ⟨by rfl, ?_⟩) (by assumption) ?_; rotate_left; (focus (intro w hSw; (try dsimp only at hSw); go_simp; (try with_reducible rfl); done)); (try simp only [put_rules]))
            (refine walkT_take (i := 3) (v := ?_) rfl (by kernel_rfl) (by decide) (by kernel_rfl) (by kernel_rfl) (fun _ _ _ h => h) (Or.inl ⟨by rfl, ?_⟩) (by assumption) ?_; rotate_left; (focus (intro w hSw; (try dsimp only at hSw); go_simp; (try with_reducible rfl); done)); (try simp only [put_rules]))
            (refine walkT_take (i := 4) (v := ?_) rfl (by kernel_rfl) (by decide) (by kernel_rfl) (by kernel_rfl) (fun _ _ _ h => h) (Or.inl ⟨by rfl, ?_⟩) (by assumption) ?_; rotate_left; (focus (intro w hSw; (try dsimp only at hSw); go_simp; (try with_reducible rfl); done)); (try simp only [put_rules]))
            (refine walkT_take (i := 5) (v := ?_) rfl (by kernel_rfl) (by decide) (by kernel_rfl) (by kernel_rfl) (fun _ _ _ h => h) (Or.inl ⟨by rfl, ?_⟩) (by assumption) ?_; rotate_left; (focus (intro w hSw; (try dsimp only at hSw); go_simp; (try with_reducible rfl); done)); (try simp only [put_rules]))
            (refine walkT_take (i := 6) (v := ?_) rfl (by kernel_rfl) (by decide) (by kernel_rfl) (by kernel_rfl) (fun _ _ _ h => h) (Or.inl ⟨by rfl, ?_⟩) (by assumption) ?_; rotate_left; (focus (intro w hSw; (try dsimp only at hSw); go_simp; (try with_reducible rfl); done)); (try simp only [put_rules]))
            (refine walkT_take (i := 7) (v := ?_) rfl (by kernel_rfl) (by decide) (by kernel_rfl) (by kernel_rfl) (fun _ _ _ h => h) (Or.inl ⟨by rfl, ?_⟩) (by assumption) ?_; rotate_left; (focus (intro w hSw; (try dsimp only at hSw); go_simp; (try with_reducible rfl); done)); (try simp only [put_rules]))
            (refine walkT_take (i := 8) (v := ?_) rfl (by kernel_rfl) (by decide) (by kernel_rfl) (by kernel_rfl) (fun _ _ _ h => h) (Or.inl ⟨by rfl, ?_⟩) (by assumption) ?_; rotate_left; (focus (intro w hSw; (try dsimp only at hSw); go_simp; (try with_reducible rfl); done)); (try simp only [put_rules]))
            (refine walkT_take (i := 9) (v := ?_) rfl (by kernel_rfl) (by decide) (by kernel_rfl) (by kernel_rfl) (fun _ _ _ h => h) (Or.inl ⟨by rfl, ?_⟩) (by assumption) ?_; rotate_left; (focus (intro w hSw; (try dsimp only at hSw); go_simp; (try with_reducible rfl); done)); (try simp only [put_rules]))
            (refine walkT_ready (rs := [10]) (by kernel_rfl) (by simp) (by decide) ?_; refine AllT.cons rfl (fun K hK => ?_) AllT.nil)
            go_simp
            go_at_call 87
            refine (cur_pick_at (lo := 0) (hi := 1) S3.out.drew.cur (by omega) (by omega) (by omega) (by omega) (by omega)).mono ?_
            rintro e w4 ⟨_, ⟨y, hy0, hy1, rfl⟩, rfl, hi4, hc4⟩
            have S4 := S3.out.drew.turn hi4 hc4
            have l4 := S4.cell (i := 1) rfl (o := 1) rfl
            obtain ⟨B4, c4, e4, hN4⟩ := nd_own (S4.own (i := 2) rfl) (HD.out.small (by omega))
            cases e4
            have n4 := hN4.var hpl
            rw [hlv.out] at n4
            replace S4 := Lib.hid S4
            go_wp2_with fail
            refine hK.out _ _ ⟨l4, n4⟩ (fun hS2 => ?_)
            clear hK hS S3
            (try simp only [put_rules])
            have hlw5 : IntKind.i64.wrap (lv - y) = lv - y := IntWalk.i64_in _ (by omega)
            (refine walkT_take (i := 11) (v := ?_) rfl (by kernel_rfl) (by decide) (by kernel_rfl) (by kernel_rfl) (fun _ _ _ h => h) (Or.inl ⟨by rfl, ?_⟩) (by assumption) ?_; rotate_left; (focus (intro w hSw; (try dsimp only at hSw); go_simp; (try with_reducible rfl); done)); (try simp only [put_rules]))
            (refine walkT_ready (rs := [12]) (by kernel_rfl) (by simp) (by decide) ?_; refine AllT.cons rfl (fun K hK => ?_) AllT.nil)
            go_simp
            go_at_call 82
            have hbd : 1 ≤ mostI 1 (lv - y) ∧ mostI 1 (lv - y) ≤ 6 := by unfold mostI; split <;> omega
            obtain ⟨v, hv5⟩ : ∃ v, mostI 1 (lv - y) = v := ⟨_, rfl⟩
            rw [hv5] at hbd
            refine (l1Most_any 1 (lv - y) _).mono ?_
            rw [hv5]
            rintro e w5 ⟨rfl, rfl⟩
            clear hv5
            go_wp2_with fail
            refine hK.out _ _ ⟨l4, n4⟩ (fun hS3 => ?_)
            clear hK hS2
            (try simp only [put_rules])
            have r7 := S4.out.cell (i := 0) rfl (o := 0) rfl
            have q7 := S4.out.frozen (i := 0) rfl 0
            have S5 := Lib.hid (S4.out.store (i := 0) rfl 0 (.int .i64 v))
            clear S4 hN4
            (refine walkT_done (by kernel_rfl) ?_)
            simp only [List.drop_succ_cons, List.drop_zero]
            go_wp2_with fail
            go_meet
            exact ⟨v, hbd.1, hbd.2, S5.out.mono (by omega)⟩
          · have d3 : decide ((0 : Int) < (ns.length : Int)) = false := decide_eq_false (by omega)
            go_wp2_with fail
            go_meet
            exact ⟨1 + x, by omega, by omega, S3.out.mono (by omega)⟩
      case rest =>
      clear S3
      obtain ⟨v, hv0, hv1, HS⟩ := hcut
      have l4 := HS.out.cell (i := 1) rfl (o := 1) rfl
      have hcur4 := Lib.hid HS.out.cur
      go_wp2_with fail
      refine (cur_pick_at (lo := 0) (hi := (ns.length : Int) + 1) hcur4.out (by omega) (by omega) (by omega) (by omega) (by omega)).mono ?_
      rintro e w4 ⟨_, ⟨lo, hlo0, hlo1, rfl⟩, rfl, hi4, hc4⟩
      have T4 := HS.out.turn hi4 hc4
      have y4 := T4.cell (i := 0) rfl (o := 1) rfl
      have z4 := T4.frozen (i := 0) rfl 1
      have S4 := Lib.hid (T4.store (i := 0) rfl 1 (.int .i64 lo))
      clear HS hcur4 hi4 hc4 T4 l4
      have l5 := S4.out.cell (i := 1) rfl (o := 1) rfl
      have hcur5 := Lib.hid S4.out.cur
      go_wp2_with fail
      refine (cur_pick_at (lo := 0) (hi := (ns.length : Int) + 1) hcur5.out (by omega) (by omega) (by omega) (by omega) (by omega)).mono ?_
      rintro e w5 ⟨_, ⟨hi, hhi0, hhi1, rfl⟩, rfl, hi5, hc5⟩
      have T5 := S4.out.turn hi5 hc5
      have y5 := T5.cell (i := 0) rfl (o := 2) rfl
      have z5 := T5.frozen (i := 0) rfl 2
      have S5 := Lib.hid (T5.store (i := 0) rfl 2 (.int .i64 hi))
      clear S4 hcur5 hi5 hc5 T5 l5
      go_upto_region 12 with fail
      go_cut [81] (fun s wx => ∃ q : Bool, s = .bool q ∧ Hid (DN w g ca cl cc (A + 28 + 20 * ns.length) wx db w.heap.size rt B c ns nb v lo hi))
      case first =>
        as_aux_lemma =>
          have HC := S5
          have a1 := cell_regrown (HC.out.cell (i := 1) rfl (o := 1) rfl)
          have n0 := cell_regrown (HC.out.cell (i := 0) rfl (o := 0) rfl)
          have n1 := cell_regrown (HC.out.cell (i := 0) rfl (o := 1) rfl)
          have n2 := cell_regrown (HC.out.cell (i := 0) rfl (o := 2) rfl)
          clear S5
          by_cases g2 : (1 : Int) < lo
          · have d2 : decide ((1 : Int) < lo) = true := decide_eq_true g2
            obtain ⟨j, hj⟩ : ∃ j : Nat, lo = (j : Int) + 2 := ⟨(lo - 2).toNat, by omega⟩
            have hjl : j < ns.length := by omega
            have hsj : IntKind.i64.wrap (lo - 2) = (j : Int) := by rw [IntWalk.i64_in _ (by omega)]; omega
            replace hj := Lib.hid hj
            obtain ⟨B', c', e', hN⟩ := nd_own (HC.out.own (i := 2) rfl) (HD.out.small (by omega))
            cases e'
            obtain ⟨bl, off, rfl, m0, -⟩ := hN.at_ j hjl
            replace m0 := cell_regrown m0
            clear hN
            generalize ns[j].v = y at *
            by_cases f2 : y ≤ v
            · have d3 : decide (y ≤ v) = true := decide_eq_true f2
              go_wp2_with fail
              refine wp_region_quiet_below (by kernel_rfl) (by kernel_rfl) ?_
              repeat (any_goals (go_big_quiet_step (fail)))
              refine wpQuiet_nil ?_
              rintro w6 ⟨p, rfl⟩
              have HS6 := Lib.hid (HC.out.grow (below_regrown _ p.d p.os))
              clear HC a1 n0 n1 n2
              go_wp2_with fail
              go_meet
              exact ⟨true, rfl, HS6.out.mono (by omega)⟩
            · have d3 : decide (y ≤ v) = false := decide_eq_false f2
              go_wp2_with fail
              refine wp_region_quiet_below (by kernel_rfl) (by kernel_rfl) ?_
              repeat (any_goals (go_big_quiet_step (fail)))
              refine wpQuiet_nil ?_
              rintro w6 ⟨p, rfl⟩
              have HS6 := Lib.hid (HC.out.grow (below_regrown _ p.d p.os))
              clear HC a1 n0 n1 n2
              go_wp2_with fail
              go_meet
              exact ⟨false, rfl, HS6.out.mono (by omega)⟩
          · have d2 : decide ((1 : Int) < lo) = false := decide_eq_false g2
            go_wp2_with fail
            refine wp_region_quiet_below (by kernel_rfl) (by kernel_rfl) ?_
            repeat (any_goals (go_big_quiet_step (fail)))
            refine wpQuiet_nil ?_
            rintro w6 ⟨p, rfl⟩
            have HS6 := Lib.hid (HC.out.grow (below_regrown _ p.d p.os))
            clear HC a1 n0 n1 n2
            go_wp2_with fail
            go_meet
            exact ⟨false, rfl, HS6.out.mono (by omega)⟩
      case rest =>
      clear S5
      obtain ⟨q, rfl, HS⟩ := hcut
      go_upto_if 81 with fail
      go_cut [] (fun wx => ∃ lo' : Int, 0 ≤ lo' ∧ lo' ≤ ns.length + 1 ∧ Hid (DN w g ca cl cc (A + 30 + 20 * ns.length) wx db w.heap.size rt B c ns nb v lo' hi))
      case first =>
        as_aux_lemma =>
          cases q
          · go_wp2_with fail
            go_meet
            exact ⟨lo, by omega, by omega, HS.out.mono (by omega)⟩
          · have hcur := Lib.hid HS.out.cur
            go_wp2_with fail
            refine (cur_pick_at (lo := 0) (hi := 1) hcur.out (by omega) (by omega) (by omega) (by omega) (by omega)).mono ?_
            rintro e w4 ⟨_, ⟨x', hx'0, hx'1, rfl⟩, rfl, hi4, hc4⟩
            have T := HS.out.turn hi4 hc4
            have y1 := T.cell (i := 0) rfl (o := 1) rfl
            have z1 := T.frozen (i := 0) rfl 1
            have S6 := Lib.hid (T.store (i := 0) rfl 1 (.int .i64 x'))
            clear HS hcur hi4 hc4 T
            go_wp2_with fail
            go_meet
            exact ⟨x', hx'0, by omega, S6.out.mono (by omega)⟩
      case rest =>
      clear HS
      clear hlo0 hlo1
      obtain ⟨lo, hlo0, hlo1, HS⟩ := hcut
      go_upto_region 14 with fail
      go_cut [100] (fun s wx => ∃ q : Bool, s = .bool q ∧ Hid (DN w g ca cl cc (A + 30 + 20 * ns.length) wx db w.heap.size rt B c ns nb v lo hi))
      case first =>
        as_aux_lemma =>
          have HC := HS
          have a1 := cell_regrown (HC.out.cell (i := 1) rfl (o := 1) rfl)
          have n0 := cell_regrown (HC.out.cell (i := 0) rfl (o := 0) rfl)
          have n1 := cell_regrown (HC.out.cell (i := 0) rfl (o := 1) rfl)
          have n2 := cell_regrown (HC.out.cell (i := 0) rfl (o := 2) rfl)
          clear HS
          by_cases g2 : (1 : Int) < hi
          · have d2 : decide ((1 : Int) < hi) = true := decide_eq_true g2
            obtain ⟨j, hj⟩ : ∃ j : Nat, hi = (j : Int) + 2 := ⟨(hi - 2).toNat, by omega⟩
            have hjl : j < ns.length := by omega
            have hsj : IntKind.i64.wrap (hi - 2) = (j : Int) := by rw [IntWalk.i64_in _ (by omega)]; omega
            replace hj := Lib.hid hj
            obtain ⟨B', c', e', hN⟩ := nd_own (HC.out.own (i := 2) rfl) (HD.out.small (by omega))
            cases e'
            obtain ⟨bl, off, rfl, m0, -⟩ := hN.at_ j hjl
            replace m0 := cell_regrown m0
            clear hN
            generalize ns[j].v = y at *
            by_cases f2 : y ≤ v
            · have d3 : decide (y ≤ v) = true := decide_eq_true f2
              go_wp2_with fail
              refine wp_region_quiet_below (by kernel_rfl) (by kernel_rfl) ?_
              repeat (any_goals (go_big_quiet_step (fail)))
              refine wpQuiet_nil ?_
              rintro w6 ⟨p, rfl⟩
              have HS6 := Lib.hid (HC.out.grow (below_regrown _ p.d p.os))
              clear HC a1 n0 n1 n2
              go_wp2_with fail
              go_meet
              exact ⟨true, rfl, HS6.out.mono (by omega)⟩
            · have d3 : decide (y ≤ v) = false := decide_eq_false f2
              go_wp2_with fail
              refine wp_region_quiet_below (by kernel_rfl) (by kernel_rfl) ?_
              repeat (any_goals (go_big_quiet_step (fail)))
              refine wpQuiet_nil ?_
              rintro w6 ⟨p, rfl⟩
              have HS6 := Lib.hid (HC.out.grow (below_regrown _ p.d p.os))
              clear HC a1 n0 n1 n2
              go_wp2_with fail
              go_meet
              exact ⟨false, rfl, HS6.out.mono (by omega)⟩
          · have d2 : decide ((1 : Int) < hi) = false := decide_eq_false g2
            go_wp2_with fail
            refine wp_region_quiet_below (by kernel_rfl) (by kernel_rfl) ?_
            repeat (any_goals (go_big_quiet_step (fail)))
            refine wpQuiet_nil ?_
            rintro w6 ⟨p, rfl⟩
            have HS6 := Lib.hid (HC.out.grow (below_regrown _ p.d p.os))
            clear HC a1 n0 n1 n2
            go_wp2_with fail
            go_meet
            exact ⟨false, rfl, HS6.out.mono (by omega)⟩
      case rest =>
      clear HS
      obtain ⟨q, rfl, HS⟩ := hcut
      go_upto_if 100 with fail
      go_cut [] (fun wx => ∃ hi' : Int, 0 ≤ hi' ∧ hi' ≤ ns.length + 1 ∧ Hid (DN w g ca cl cc (A + 32 + 20 * ns.length) wx db w.heap.size rt B c ns nb v lo hi'))
      case first =>
        as_aux_lemma =>
          cases q
          · go_wp2_with fail
            go_meet
            exact ⟨hi, by omega, by omega, HS.out.mono (by omega)⟩
          · have hcur := Lib.hid HS.out.cur
            go_wp2_with fail
            refine (cur_pick_at (lo := 0) (hi := 1) hcur.out (by omega) (by omega) (by omega) (by omega) (by omega)).mono ?_
            rintro e w4 ⟨_, ⟨x', hx'0, hx'1, rfl⟩, rfl, hi4, hc4⟩
            have T := HS.out.turn hi4 hc4
            have y1 := T.cell (i := 0) rfl (o := 2) rfl
            have z1 := T.frozen (i := 0) rfl 2
            have S6 := Lib.hid (T.store (i := 0) rfl 2 (.int .i64 x'))
            clear HS hcur hi4 hc4 T
            go_wp2_with fail
            go_meet
            exact ⟨x', hx'0, by omega, S6.out.mono (by omega)⟩
      case rest =>
      clear HS
      clear hhi0 hhi1
      obtain ⟨hi, hhi0, hhi1, HS⟩ := hcut
      have hlw2 : IntKind.i64.wrap (((ns.length + 1 : Nat) : Int) + 1) = ((ns.length + 1 : Nat) : Int) + 1 := IntWalk.i64_in _ (by omega)
      have hmw : IntKind.i64.wrap ((m : Int) - 1) = ((m - 1 : Nat) : Int) := by rw [IntWalk.i64_in _ (by omega)]; omega
      have a1 := HS.out.cell (i := 1) rfl (o := 1) rfl
      have n0 := HS.out.cell (i := 0) rfl (o := 0) rfl
      have n1 := HS.out.cell (i := 0) rfl (o := 1) rfl
      have n2 := HS.out.cell (i := 0) rfl (o := 2) rfl
      obtain ⟨i0, hi0, hz0, hz1, hz2⟩ := info_parts infoNd
      have S5 := HS.out.alloc_box #[.int .i64 v, .int .i64 lo, .int .i64 hi] 71
      have hsrc := Src.three (S5.cell (i := 0) rfl (o := 0) rfl) (S5.cell (i := 0) rfl (o := 1) rfl) (S5.cell (i := 0) rfl (o := 2) rfl)
      replace S5 := Lib.hid S5
      clear HS
      go_wp2_with (at_builtin; refine wpList_append_src rfl _ _ rfl Tryz.underlying24 hi0 hz0 hz1 hz2 rfl (by decide) _ ns.length _ rfl (S5.out.own (i := 3) rfl) _ 1 1 [.int .i64 v, .int .i64 lo, .int .i64 hi] rfl hsrc (by simp [Value.oneCell']) ?c3 ?c4 ?_)
      case c3 => unfold maxLen; omega
      case c4 => omega
      intro vY wY hownY hgY hatY
      have S6 := (S5.out.own_push (i := 3) rfl (bb _) hownY hgY (by simpa using hatY)).tail
      obtain ⟨aY, cY, rfl⟩ := own_slice hownY
      have b1 := S6.cell (i := 1) rfl (o := 1) rfl
      have b0 := S6.cell (i := 1) rfl (o := 0) rfl
      have q1 := S6.frozen (i := 1) rfl 1
      have q0 := S6.frozen (i := 1) rfl 0
      have S7 := S6.store (i := 1) rfl 1 (.slice aY (ns.length + 1) cY)
      have t1 := S7.cell (i := 1) rfl (o := 1) rfl
      have S8 := (S7.store (i := 1) rfl 0 (.int .i64 (((ns.length + 1 : Nat) : Int) + 1))).tail
      have HD2 : Hid (DrOk (ns ++ [⟨v, lo, hi⟩])) := HD.out.snoc ⟨hv0, hv1⟩ ⟨hlo0, hlo1⟩ ⟨hhi0, hhi1⟩
      have hlen : (ns ++ [(⟨v, lo, hi⟩ : Nd)]).length = ns.length + 1 := by simp
      have S9 : Hid (DS w g ca cl cc (A + 20 + 20 * (ns ++ [(⟨v, lo, hi⟩ : Nd)]).length) ((wY.setCell ⟨db, 1, none⟩ (.slice aY (ns.length + 1) cY)).setCell ⟨db, 0, none⟩ (.int .i64 (((ns.length + 1 : Nat) : Int) + 1))) db w.heap.size (((ns.length + 1 : Nat) : Int) + 1) aY cY (ns ++ [⟨v, lo, hi⟩])) := by
        unfold Hid DS
        rw [hlen, List.flatMap_append]
        exact S8.mono (by omega)
      clear S5 S6 S7 S8 hsrc hownY hgY hatY a1 n0 n1 n2
      replace hlen := Lib.hid hlen
      go_wp2_with fail
      go_roundw
      case rel => exact ⟨m - 1, _, _, aY, cY, by rw [hlen.out]; omega, rfl, HD2, by omega, by rw [hlen.out]; omega, S9⟩
      case measure => simp [intOf]; omega
end Go.Proofs.YtbemodacpimiiaaGreat
