/- Lemmas and contracts for a law, put together out of several texts: TrD MdA MdB MdC Cur CurS NwH ClO ClQ. -/
import Derived.Test.YtmikconjhmhekaaMg2
import Derived.Test.YtmikconjhmhekaaMg1
import Derived.Deep.DeepCutAuto
import Derived.Test.YtmikconjhmhekaaProg
import Derived.WalkLawsBesides
import Derived.WalkSpells
import Derived.Lib.Hide
/- Contracts: satisfiable Cnfs, counts of models, in the program. -/
namespace Go.Proofs.Ytmikconjhmhekaa
open Go.RowKit

/-- From a row of rows to clauses that can be read. -/
theorem cls_row {wr : Bool} {w : World} {v : Value} {xss : List (List Int)} {F : List Nat} (h : (Ty.slice Ty.int).row wr w v xss F) : ∃ A c, v = .slice A xss.length c ∧ ClsAt w A xss := by
  obtain ⟨a, cap, rfl, _, _, h3⟩ := row_slices h
  refine ⟨a, cap, rfl, ⟨fun j hj => ?_⟩⟩
  rcases h3 with ⟨rfl, _⟩ | ⟨_, b, off, rfl, _, hc⟩
  · exact absurd hj (by simp)
  · obtain ⟨u, Fk, hu, hr, _⟩ := hc j hj
    obtain ⟨B, c, rfl, hI⟩ := ints_row hr
    exact ⟨b, off, B, c, rfl, hu.1, hI⟩
theorem lit_small {vars l : Int} (hv : 0 ≤ vars ∧ vars ≤ 12) (h : litB vars l = true) : l ≠ 0 ∧ -vars ≤ l ∧ l ≤ vars := by
  unfold litB inB at h
  rw [negV_small (by unfold I64; omega) (by omega)] at h
  simp only [Bool.and_eq_true, decide_eq_true_eq, bne_iff_ne] at h
  omega
theorem clause_parts {vars : Int} {c : List Int} (h : clauseB vars c = true) : (0 ≤ vars ∧ vars ≤ 12) ∧ (∀ l ∈ c, l ≠ 0 ∧ -vars ≤ l ∧ l ≤ vars) ∧ ∀ i (h : i + 1 < c.length), c[i].natAbs < c[i + 1].natAbs := by
  unfold clauseB inB cOkTo at h
  simp only [Bool.and_eq_true, decide_eq_true_eq, List.all_eq_true, List.mem_range] at h
  obtain ⟨hv, hc⟩ := h
  have hlit : ∀ i (hi : i < c.length), litB vars c[i] = true := fun i hi => by
    have := hc i hi
    unfold cOk at this
    rw [Bool.and_eq_true, List.getD_eq_getElem?_getD, List.getElem?_eq_getElem hi] at this
    exact this.1
  refine ⟨hv, fun l hl => ?_, fun i hi => ?_⟩
  · obtain ⟨i, hi, rfl⟩ := List.getElem_of_mem hl
    exact lit_small hv (hlit i hi)
  · have h1 := hc (i + 1) hi
    unfold cOk at h1
    rw [Bool.and_eq_true, Bool.or_eq_true] at h1
    have h2 := h1.2
    simp only [beq_iff_eq, Nat.add_eq_zero_iff, Nat.succ_ne_self, and_false, false_or, decide_eq_true_eq, Nat.add_sub_cancel] at h2
    rw [List.getD_eq_getElem?_getD, List.getD_eq_getElem?_getD, List.getElem?_eq_getElem hi, List.getElem?_eq_getElem (by omega)] at h2
    simp only [Option.getD_some] at h2
    have a1 := lit_small hv (hlit i (by omega))
    have a2 := lit_small hv (hlit (i + 1) hi)
    rw [absV_lit ⟨a1.1, by omega, by omega⟩, absV_lit ⟨a2.1, by omega, by omega⟩] at h2
    omega
theorem clause_rising {vars : Int} {c : List Int} (h : clauseB vars c = true) : c.Pairwise (fun a b => a.natAbs < b.natAbs) := by
  have h3 := (clause_parts h).2.2
  clear h
  induction c with
  | nil => exact .nil
  | cons a c ih =>
    have hc := ih (fun i hi => by have := h3 (i + 1) (by simp; omega); simpa using this)
    refine List.pairwise_cons.2 ⟨fun b hb => ?_, hc⟩
    cases c with
    | nil => simp at hb
    | cons d c =>
      have h0 := h3 0 (by simp)
      simp only [List.getElem_cons_zero, List.getElem_cons_succ] at h0
      rcases List.mem_cons.1 hb with rfl | hb
      · exact h0
      · exact Nat.lt_trans h0 ((List.pairwise_cons.1 hc).1 b hb)
theorem rising_len {m : Nat} : ∀ {c : List Int} {k : Nat}, c.Pairwise (fun a b => a.natAbs < b.natAbs) → (∀ l ∈ c, k ≤ l.natAbs ∧ l.natAbs < k + m) → c.length ≤ m
  | [], _, _, _ => by simp
  | a :: c, k, hp, hb => by
    have ha := hb a (by simp)
    have hp' := List.pairwise_cons.1 hp
    have := rising_len (m := m - (a.natAbs - k) - 1) (k := a.natAbs + 1) hp'.2 (fun l hl => by have := hp'.1 l hl; have := hb l (by simp [hl]); omega)
    simp only [List.length_cons]
    omega
theorem clause_s {vars : Int} {c : List Int} (h : clauseB vars c = true) : ClS c := by
  have hp := clause_parts h
  refine ⟨fun l hl => ?_, ?_⟩
  · have := hp.2.1 l hl
    exact ⟨this.1, by omega, by omega⟩
  · have := rising_len (m := 12) (k := 1) (clause_rising h) (fun l hl => by have := hp.2.1 l hl; omega)
    omega
theorem good_cnf {vars : Int} {xss : List (List Int)} (h : goodB vars xss = true) : (0 ≤ vars ∧ vars ≤ 12) ∧ xss.length ≤ 60 ∧ (∀ c ∈ xss, clauseB vars c = true) ∧ ∀ c ∈ xss, ClS c := by
  unfold goodB inB at h
  simp only [Bool.and_eq_true, decide_eq_true_eq, List.all_eq_true] at h
  exact ⟨h.1.1, h.1.2, h.2, fun c hc => clause_s (h.2 c hc)⟩

set_option maxRecDepth 100000 in
set_option maxHeartbeats 4000000 in
theorem satisfiable_any (n : Nat) (hn : n ≤ 12) (xss : List (List Int)) (hc : ∀ c ∈ xss, ClS c) (hl : xss.length ≤ 1000000) (A : Option Addr) (cap : Nat) (w : World) (hx : ClsAt w A xss) :
    Calls Try.prog 90 #[.int .i64 n, .slice A xss.length cap] w fun e w' => e = .returned (.bool ((List.range (2 ^ n)).any (modT xss))) ∧ Below w.heap.size w w' := by
  have eg : Enter1 186 := enters_of Try.func186 (by kernel_rfl) rfl
  have S0 := (Sp.start w).alloc_box #[.bool false] 4
  have hcall := Lib.hid (models_any (cb := #[.pointer (some ⟨w.heap.size, 0, none⟩)]) eg n hn xss hc hl A cap (w.alloc (.cells #[.bool false] 4)) [w.heap.size] (by simp)
    (fun k W => Sp w W [Box w.heap.size 4 #[.bool ((List.range k).any (modT xss))]]) S0 (fun k W W' h hb => h.grow hb) (fun k W h => hx.grow h.below)
    (fun k W hm h => by rw [show (List.range (k + 1)).any (modT xss) = (List.range k).any (modT xss) by rw [List.range_succ, List.any_append]; simp [hm]]; exact h)
    (fun k W hk hm h => by
      have f0 := h.frozen (i := 0) rfl 0
      have c0 := h.cell (i := 0) rfl (o := 0) rfl
      have S1 := Lib.hid (h.store (i := 0) rfl 0 (.bool true))
      have hch := Lib.hid ((Chg.refl [w.heap.size] W).set (p := ⟨w.heap.size, 0, none⟩) (by simp) (.bool true))
      have hany : (List.range (2 ^ n)).any (modT xss) = true := List.any_eq_true.2 ⟨k, List.mem_range.2 hk, hm⟩
      rw [hany]
      clear h
      show Calls Try.prog 186 #[.int .i64 k, .pointer (some ⟨w.heap.size, 0, none⟩)] W _
      go_enter Try.func186, Try.ntmps186
      go_wp2_with fail
      go_ret
      exact ⟨false, rfl, hch.out, S1.out⟩))
  generalize (List.range (2 ^ n)).any (modT xss) = q at *
  clear eg S0 hx hc
  go_enter Try.func90, Try.ntmps90
  go_wp2_with fail
  refine hcall.out.mono ?_
  rintro e w1 ⟨rfl, S1⟩
  have c1 := S1.cell (i := 0) rfl (o := 0) rfl
  have hB := S1.below
  clear hcall S1
  go_wp2_with fail
  go_ret
  exact ⟨rfl, hB⟩

set_option maxRecDepth 100000 in
set_option maxHeartbeats 4000000 in
theorem isSatisfiable_any (vars : Int) (v : Value) (xss : List (List Int)) (F : List Nat) (w : World) (hx : (Ty.slice Ty.int).row false w v xss F) :
    Calls Try.prog 17 #[.agg #[.int .i64 vars, v]] w fun e w' => e = .returned (.tuple #[.bool (goodB vars xss && (List.range (2 ^ vars.toNat)).any (modT xss)), .bool (goodB vars xss)]) ∧ Below w.heap.size w w' := by
  obtain ⟨A, cap, rfl, hI⟩ := cls_row hx
  have S0 := (Sp.start w).alloc_box #[.int .i64 vars, .slice A xss.length cap] 26
  have hcall := Lib.hid (implIsCnf_any vars _ xss F _ (Ty.row_below hx S0.below (Ty.row_lt hx)))
  replace S0 := Lib.hid S0
  cases h1 : goodB vars xss
  · rw [h1] at hcall
    clear hx hI
    go_enter Try.func17, Try.ntmps17
    go_wp2_with fail
    refine hcall.out.mono ?_
    rintro e w1 ⟨rfl, hb1⟩
    have hB := (S0.out.grow hb1).below
    clear S0 hcall hb1
    go_wp2_with fail
    go_ret2
    exact ⟨rfl, hB⟩
  · have hg := good_cnf h1
    rw [h1] at hcall
    obtain ⟨n, rfl⟩ := Int.eq_ofNat_of_zero_le hg.1.1
    have hsat := Lib.hid (fun W hb => satisfiable_any n (by omega) xss hg.2.2.2 (by omega) A cap W (hI.grow hb))
    rw [show (n : Int).toNat = n by omega]
    generalize (List.range (2 ^ n)).any (modT xss) = q at *
    clear hx hI hg
    go_enter Try.func17, Try.ntmps17
    go_wp2_with fail
    refine hcall.out.mono ?_
    rintro e w1 ⟨rfl, hb1⟩
    have S1 := S0.out.grow hb1
    have c0 := S1.cell (i := 0) rfl (o := 0) rfl
    have c1 := S1.cell (i := 0) rfl (o := 1) rfl
    have hs2 := Lib.hid (hsat.out _ S1.below)
    replace S1 := Lib.hid S1
    clear S0 hcall hb1 hsat
    go_wp2_with fail
    refine hs2.out.mono ?_
    rintro e w2 ⟨rfl, hb2⟩
    have hB := (S1.out.grow hb2).below
    clear S1 hs2 hb2
    go_wp2_with fail
    go_ret2
    exact ⟨rfl, hB⟩
end Go.Proofs.Ytmikconjhmhekaa

/- Contracts: clauses and Cnfs at bits, in the reference. -/
namespace Go.Proofs.Ytmikconjhmhekaa
open Go.RowKit

theorem cl_next {c : List Int} {k : Nat} (hk : k < c.length) (b : Nat) : clT (c.take (k + 1)) b = (clT (c.take k) b || litT b c[k]) := by
  unfold clT
  rw [List.take_succ_eq_append_getElem hk, List.any_append]
  simp
theorem cl_take {c : List Int} {k b : Nat} (h : clT (c.take k) b = true) : clT c b = true := by
  unfold clT at *
  rw [List.any_eq_true] at *
  obtain ⟨x, hx, h⟩ := h
  exact ⟨x, List.mem_of_mem_take hx, h⟩
theorem md_next {xss : List (List Int)} {j : Nat} (hj : j < xss.length) (b : Nat) : modT (xss.take (j + 1)) b = (modT (xss.take j) b && clT xss[j] b) := by
  unfold modT
  rw [List.take_succ_eq_append_getElem hj, List.all_append]
  simp
theorem md_take {xss : List (List Int)} {j b : Nat} (h : modT (xss.take j) b = false) : modT xss b = false := by
  unfold modT at *
  rw [List.all_eq_false] at *
  obtain ⟨x, hx, h⟩ := h
  exact ⟨x, List.mem_of_mem_take hx, h⟩

set_option maxRecDepth 100000 in
set_option maxHeartbeats 4000000 in
theorem l5True_any (c : List Int) (hc : ∀ l ∈ c, LitS l) (hl : c.length ≤ 1000000) (A : Option Addr) (cap b : Nat) (hb : b < 2 ^ 62) (w : World) (hx : IntsAt w A c) :
    Calls Try.prog 185 #[.slice A c.length cap, .int .i64 b] w fun e w' => e = .returned (.bool (clT c b)) ∧ Below w.heap.size w w' := by
  have hN := Lib.hid hx
  have hcc := Lib.hid hc
  clear hx hc
  go_enter Try.func185, Try.ntmps185
  go_wp2_with fail
  go_loopw [5] (fun vi wr => ∃ k : Nat, k ≤ c.length ∧ vi = .int .i64 k ∧ Hid (clT (c.take k) b = false) ∧ Hid (Below w.heap.size w wr)) (fun vi _ => c.length - (intOf vi).toNat)
  case atStart => exact ⟨0, Nat.zero_le _, rfl, rfl, bb _⟩
  case round =>
    obtain ⟨k, hk, rfl, hno, HB⟩ := hrel
    by_cases hlt : k < c.length
    · obtain ⟨ab, off, rfl, m0⟩ := (hN.out.grow HB.out).at_ k hlt
      have hlk := hcc.out _ (List.getElem_mem hlt)
      have hnx := Lib.hid (cl_next hlt b)
      have hall := Lib.hid (fun h => cl_take (c := c) (k := k + 1) (b := b) h)
      generalize c[k] = l at *
      obtain ⟨m, hm⟩ : ∃ m, l.natAbs = m + 1 := ⟨l.natAbs - 1, by unfold LitS at hlk; omega⟩
      have ha := fun W => l2Var_at (absV_lit hlk) W
      have hand := bit_at b hb m
      have hR : Hid (litT b l = (b.testBit (l.natAbs - 1) == decide (0 < l))) := rfl
      rw [hm, show m + 1 - 1 = m by omega] at hR
      rw [hm, show ((m + 1 : Nat) : Int) = (m : Int) + 1 by omega] at ha
      have hw1 : IntKind.i64.wrap ((m : Int) + 1 - 1) = (m : Int) := by rw [IntWalk.i64_in _ (by unfold LitS at hlk; omega)]; omega
      have hw2 : IntKind.i64.wrap (m : Int) = (m : Int) := by rw [IntWalk.i64_in _ (by unfold LitS at hlk; omega)]
      have hm2 : m ≤ 1000 := by unfold LitS at hlk; omega
      generalize b.testBit m = q at *
      replace ha := Lib.hid ha
      clear hm hlk
      go_upto_region 4 with fail
      go_cut [27] (fun s wx => s = .bool (litT b l) ∧ Hid (Below w.heap.size w wx))
      case first =>
        cases hp : decide (0 < l)
        all_goals
          rw [hp] at hR
          cases q
        all_goals
          as_aux_lemma =>
          simp only [if_true, if_false, Bool.false_eq_true] at hand
          refine wp_region_held_lit (S := (fun w' => w'.cell? ⟨ab, off + k, none⟩ = some (.int .i64 l))) 16 [false, false, false, false, false, false, false, false, false, false, false, false, false, false, false, false] (by kernel_rfl) (by kernel_rfl) (by kernel_rfl) ?_ ?_
          · exact m0
          intro hS
          (refine wpAnyH_take (i := 0) (v := ?_) rfl (by kernel_rfl) (by kernel_rfl) (by kernel_rfl) (fun _ _ _ h => h) (Or.inl ⟨by rfl, ?_⟩) (by assumption) ?_; rotate_left; (focus (intro w hSw; (try dsimp only at hSw); go_simp; (try with_reducible rfl); done)); (try simp only [put_rules]))
          (refine wpAnyH_take (i := 1) (v := ?_) rfl (by kernel_rfl) (by kernel_rfl) (by kernel_rfl) (fun _ _ _ h => h) (Or.inl ⟨by rfl, ?_⟩) (by assumption) ?_; rotate_left; (focus (intro w hSw; (try dsimp only at hSw); go_simp; (try with_reducible rfl); done)); (try simp only [put_rules]))
          (refine wpAnyH_take (i := 2) (v := ?_) rfl (by kernel_rfl) (by kernel_rfl) (by kernel_rfl) (fun _ _ _ h => h) (Or.inl ⟨by rfl, ?_⟩) (by assumption) ?_; rotate_left; (focus (intro w hSw; (try dsimp only at hSw); go_simp; (try with_reducible rfl); done)); (try simp only [put_rules]))
          (refine wpAnyH_take (i := 3) (v := ?_) rfl (by kernel_rfl) (by kernel_rfl) (by kernel_rfl) (fun _ _ _ h => h) (Or.inl ⟨by rfl, ?_⟩) (by assumption) ?_; rotate_left; (focus (intro w hSw; (try dsimp only at hSw); go_simp; (try with_reducible rfl); done)); (try simp only [put_rules]))
          (refine wpAnyH_take (i := 4) (v := ?_) rfl (by kernel_rfl) (by kernel_rfl) (by kernel_rfl) (fun _ _ _ h => h) (Or.inl ⟨by rfl, ?_⟩) (by assumption) ?_; rotate_left; (focus (intro w hSw; (try dsimp only at hSw); go_simp; (try with_reducible rfl); done)); (try simp only [put_rules]))
          (refine wpAnyH_take (i := 10) (v := ?_) rfl (by kernel_rfl) (by kernel_rfl) (by kernel_rfl) (fun _ _ _ h => h) (Or.inl ⟨by rfl, ?_⟩) (by assumption) ?_; rotate_left; (focus (intro w hSw; (try dsimp only at hSw); go_simp; (try with_reducible rfl); done)); (try simp only [put_rules]))
          (refine wpAnyH_take (i := 11) (v := ?_) rfl (by kernel_rfl) (by kernel_rfl) (by kernel_rfl) (fun _ _ _ h => h) (Or.inl ⟨by rfl, ?_⟩) (by assumption) ?_; rotate_left; (focus (intro w hSw; (try dsimp only at hSw); go_simp; (try with_reducible rfl); done)); (try simp only [put_rules]))
          (refine wpAnyH_take (i := 12) (v := ?_) rfl (by kernel_rfl) (by kernel_rfl) (by kernel_rfl) (fun _ _ _ h => h) (Or.inl ⟨by rfl, ?_⟩) (by assumption) ?_; rotate_left; (focus (intro w hSw; (try dsimp only at hSw); go_simp; (try with_reducible rfl); done)); (try simp only [put_rules]))
          (refine wpAnyH_take (i := 13) (v := ?_) rfl (by kernel_rfl) (by kernel_rfl) (by kernel_rfl) (fun _ _ _ h => h) (Or.inl ⟨by rfl, ?_⟩) (by assumption) ?_; rotate_left; (focus (intro w hSw; (try dsimp only at hSw); go_simp; (try with_reducible rfl); done)); (try simp only [put_rules]))
          (refine wpAnyH_take (i := 14) (v := ?_) rfl (by kernel_rfl) (by kernel_rfl) (by kernel_rfl) (fun _ _ _ h => h) (Or.inl ⟨by rfl, ?_⟩) (by assumption) ?_; rotate_left; (focus (intro w hSw; (try dsimp only at hSw); go_simp; (try with_reducible rfl); done)); (try simp only [put_rules]))
          (refine wpAnyH_ready (rs := [5]) (by kernel_rfl) (by simp) ?_; refine AllReadyH.cons rfl (fun K hK => ?_) AllReadyH.nil)
          go_simp
          go_at_call 196
          refine (ha.out _).mono ?_
          rintro e w3 ⟨rfl, hb3⟩
          have hS3 := ((bcell hb3).1 _ _ (World.block_lt_of_cell? _ _ hS)).trans hS
          have HB3 := Lib.hid (btr (btr HB.out (bdr (bb _))) hb3)
          go_wp2_with fail
          refine hK.out _ _ hS3 (fun hS2 => ?_)
          clear hK
          (try simp only [put_rules])
          (refine wpAnyH_take (i := 6) (v := ?_) rfl (by kernel_rfl) (by kernel_rfl) (by kernel_rfl) (fun _ _ _ h => h) (Or.inl ⟨by rfl, ?_⟩) (by assumption) ?_; rotate_left; (focus (intro w hSw; (try dsimp only at hSw); go_simp; (try with_reducible rfl); done)); (try simp only [put_rules]))
          (refine wpAnyH_take (i := 7) (v := ?_) rfl (by kernel_rfl) (by kernel_rfl) (by kernel_rfl) (fun _ _ _ h => h) (Or.inl ⟨by rfl, ?_⟩) (by assumption) ?_; rotate_left; (focus (intro w hSw; (try dsimp only at hSw); go_simp; (try with_reducible rfl); done)); (try simp only [put_rules]))
          (refine wpAnyH_take (i := 8) (v := ?_) rfl (by kernel_rfl) (by kernel_rfl) (by kernel_rfl) (fun _ _ _ h => h) (Or.inl ⟨by rfl, ?_⟩) (by assumption) ?_; rotate_left; (focus (intro w hSw; (try dsimp only at hSw); go_simp; (try with_reducible rfl); done)); (try simp only [put_rules]))
          (refine wpAnyH_take (i := 9) (v := ?_) rfl (by kernel_rfl) (by kernel_rfl) (by kernel_rfl) (fun _ _ _ h => h) (Or.inl ⟨by rfl, ?_⟩) (by assumption) ?_; rotate_left; (focus (intro w hSw; (try dsimp only at hSw); go_simp; (try with_reducible rfl); done)); (try simp only [put_rules]))
          (refine wpAnyH_take (i := 15) (v := ?_) rfl (by kernel_rfl) (by kernel_rfl) (by kernel_rfl) (fun _ _ _ h => h) (Or.inl ⟨by rfl, ?_⟩) (by assumption) ?_; rotate_left; (focus (intro w hSw; (try dsimp only at hSw); go_simp; (try with_reducible rfl); done)); (try simp only [put_rules]))
          (refine wpAnyH_done (by kernel_rfl) ?_ _)
          go_wp2_with fail
          go_meet
          exact ⟨by rw [hR.out]; rfl, HB3⟩
      case rest =>
      obtain ⟨rfl, HB2⟩ := hcut
      clear HB m0 ha hand hR hw1 hw2
      cases hq : litT b l
      · have hno2 : Hid (clT (c.take (k + 1)) b = false) := by unfold Hid; rw [hnx.out, hno.out, hq]; rfl
        go_wp2_with fail
        go_roundw
        case rel => exact ⟨k + 1, by omega, by go_num, hno2, HB2⟩
        case measure => simp [intOf]; omega
      · have hyes : clT c b = true := hall.out (by rw [hnx.out, hq]; simp)
        go_wp2_with fail
        go_ret
        exact ⟨ret_bool hyes.symm, HB2.out⟩
    · obtain rfl : k = c.length := by omega
      have hno' : clT c b = false := by have := hno.out; rwa [List.take_length] at this
      go_wp2_with fail
      go_ret
      exact ⟨ret_bool hno'.symm, HB.out⟩

set_option maxHeartbeats 4000000 in
theorem l5All_any (xss : List (List Int)) (hc : ∀ c ∈ xss, ClS c) (hl : xss.length ≤ 1000000) (A : Option Addr) (cap b : Nat) (hb : b < 2 ^ 62) (w : World) (hx : ClsAt w A xss) :
    Calls Try.prog 88 #[.slice A xss.length cap, .int .i64 b] w fun e w' => e = .returned (.bool (modT xss b)) ∧ Below w.heap.size w w' := by
  have hN := Lib.hid hx
  have hcc := Lib.hid hc
  clear hx hc
  go_enter Try.func88, Try.ntmps88
  go_wp2_with fail
  go_loopw [5] (fun vi wr => ∃ k : Nat, k ≤ xss.length ∧ vi = .int .i64 k ∧ Hid (modT (xss.take k) b = true) ∧ Hid (Below w.heap.size w wr)) (fun vi _ => xss.length - (intOf vi).toNat)
  case atStart => exact ⟨0, Nat.zero_le _, rfl, rfl, bb _⟩
  case round =>
    obtain ⟨k, hk, rfl, hno, HB⟩ := hrel
    by_cases hlt : k < xss.length
    · obtain ⟨ab, off, B, c, rfl, m0, hI⟩ := (hN.out.grow HB.out).at_ k hlt
      have hcl := hcc.out _ (List.getElem_mem hlt)
      have hnx := Lib.hid (md_next hlt b)
      have hall := Lib.hid (fun h => md_take (xss := xss) (j := k + 1) (b := b) h)
      generalize xss[k] = cl at *
      have htr := Lib.hid (l5True_any cl hcl.1 (Nat.le_trans hcl.2 (by omega)) B c b hb wr hI)
      clear hI hcl
      generalize hq : clT cl b = q at *
      go_wp2_with fail
      refine htr.out.mono ?_
      rintro e w3 ⟨rfl, hb3⟩
      have HB2 := Lib.hid (btr HB.out hb3)
      clear HB htr hb3 m0
      cases q
      · have hyes : modT xss b = false := hall.out (by rw [hnx.out]; simp)
        go_wp2_with fail
        go_ret
        exact ⟨ret_bool hyes.symm, HB2.out⟩
      · have hno2 : Hid (modT (xss.take (k + 1)) b = true) := by unfold Hid; rw [hnx.out, hno.out]; rfl
        go_wp2_with fail
        go_roundw
        case rel => exact ⟨k + 1, by omega, by go_num, hno2, HB2⟩
        case measure => simp [intOf]; omega
    · obtain rfl : k = xss.length := by omega
      have hno' : modT xss b = true := by have := hno.out; rwa [List.take_length] at this
      go_wp2_with fail
      go_ret
      exact ⟨ret_bool hno'.symm, HB.out⟩
end Go.Proofs.Ytmikconjhmhekaa

/- Contracts: models that are counted and the least one, in the reference. -/
namespace Go.Proofs.Ytmikconjhmhekaa
open Go.RowKit

def cntP (p : Nat → Bool) (k : Nat) : Nat := ((List.range k).filter p).length
theorem cntP_no {p : Nat → Bool} {k : Nat} (h : p k = false) : cntP p (k + 1) = cntP p k := by simp [cntP, List.range_succ, List.filter_append, h]
theorem cntP_yes {p : Nat → Bool} {k : Nat} (h : p k = true) : cntP p (k + 1) = cntP p k + 1 := by simp [cntP, List.range_succ, List.filter_append, h]
theorem cntP_le (p : Nat → Bool) (k : Nat) : cntP p k ≤ k := Nat.le_trans (List.length_filter_le _ _) (by simp)

set_option maxRecDepth 100000 in
set_option maxHeartbeats 4000000 in
theorem l5Models_any (n : Nat) (hn : n ≤ 12) (xss : List (List Int)) (hc : ∀ c ∈ xss, ClS c) (hl : xss.length ≤ 1000000) (A : Option Addr) (cap : Nat) (w : World) (hx : ClsAt w A xss) :
    Calls Try.prog 86 #[.agg #[.int .i64 n, .slice A xss.length cap]] w fun e w' => e = .returned (.int .i64 (cntP (modT xss) (2 ^ n))) ∧ Below w.heap.size w w' := by
  obtain ⟨hsh, hp⟩ := pow12 hn
  have S0 := (Sp.start w).alloc_box #[.int .i64 n, .slice A xss.length cap] 26
  have hcall := Lib.hid (fun b (hb : b < 4096) W (h : Below w.heap.size w W) => l5All_any xss hc hl A cap b (Nat.lt_trans hb (by decide)) W (hx.grow h))
  replace S0 := Lib.hid S0
  have hcl := Lib.hid (cntP_le (modT xss))
  clear hc hx
  generalize 2 ^ n = N at *
  go_enter Try.func86, Try.ntmps86
  go_wp2_with fail
  go_loopw [3, 4] (fun vn vi wr => ∃ k : Nat, k ≤ N ∧ vi = .int .i64 k ∧ vn = .int .i64 (cntP (modT xss) k) ∧ Hid (Sp w wr [Box w.heap.size 26 #[.int .i64 n, .slice A xss.length cap]])) (fun _ vi _ => N - (intOf vi).toNat)
  case atStart => exact ⟨0, Nat.zero_le _, rfl, rfl, S0⟩
  case round =>
    obtain ⟨k, hk, rfl, rfl, HS⟩ := hrel
    clear S0
    have c0 := HS.out.cell (i := 0) rfl (o := 0) rfl
    have c1 := HS.out.cell (i := 0) rfl (o := 1) rfl
    by_cases hlt : k < N
    · have d0 : decide ((k : Int) < (N : Int)) = true := decide_eq_true (Int.ofNat_lt.2 hlt)
      have hk4 : k < 4096 := Nat.lt_of_lt_of_le hlt hp
      have hall := Lib.hid (hcall.out k hk4 wr HS.out.below)
      have hck := hcl.out k
      have hno := Lib.hid (fun h => cntP_no (p := modT xss) (k := k) h)
      have hyes := Lib.hid (fun h => cntP_yes (p := modT xss) (k := k) h)
      generalize modT xss k = q at *
      go_wp2_with fail
      refine hall.out.mono ?_
      rintro e w3 ⟨rfl, hb3⟩
      have S3 := Lib.hid (HS.out.grow hb3)
      clear HS hall hb3 c0 c1
      cases q
      · have hn2 := hno.out rfl
        go_wp2_with fail
        go_roundw
        case rel => exact ⟨k + 1, by omega, by go_num, by rw [hn2], S3⟩
        case measure => simp [intOf]; omega
      · have hn2 := Lib.hid (hyes.out rfl)
        generalize cntP (modT xss) k = c at *
        have hwc : IntKind.i64.wrap ((c : Int) + 1) = (c : Int) + 1 := IntWalk.i64_in _ (by omega)
        go_wp2_with fail
        go_roundw
        case rel => exact ⟨k + 1, by omega, by go_num, by rw [hn2.out]; rfl, S3⟩
        case measure => simp [intOf]; omega
    · obtain rfl : k = N := by omega
      have d0 : decide ((k : Int) < (k : Int)) = false := by simp
      have hB := Lib.hid HS.out.below
      clear HS
      go_wp2_with fail
      go_ret
      exact ⟨rfl, hB.out⟩
end Go.Proofs.Ytmikconjhmhekaa

/- Contracts: the least model, satisfiability and implied clauses, in the reference. -/
namespace Go.Proofs.Ytmikconjhmhekaa
open Go.RowKit

theorem first_at {p : Nat → Bool} {k N : Nat} (hk : k < N) (h0 : (List.range k).any p = false) (h1 : p k = true) : idxP p (List.range N) = (k : Int) := by
  unfold idxP
  have ha : (List.range N).any p = true := List.any_eq_true.2 ⟨k, List.mem_range.2 hk, h1⟩
  rw [if_pos ha]
  have hl : k < (List.range N).length := by simpa using hk
  have : (List.range N).findIdx p = k := (List.findIdx_eq hl).2 ⟨by simpa using h1, fun j hj => by
    rw [List.any_eq_false] at h0
    have := h0 j (List.mem_range.2 hj)
    simpa using this⟩
  rw [this]
theorem first_no {p : Nat → Bool} {N : Nat} (h0 : (List.range N).any p = false) : idxP p (List.range N) = -1 := by
  unfold idxP
  rw [if_neg (by rw [h0]; decide)]
theorem rany_next {p : Nat → Bool} {k : Nat} : (List.range (k + 1)).any p = ((List.range k).any p || p k) := by
  simp [List.range_succ, List.any_append]
theorem rany_yes {p : Nat → Bool} {k N : Nat} (hk : k < N) (h : p k = true) : (List.range N).any p = true := List.any_eq_true.2 ⟨k, List.mem_range.2 hk, h⟩

set_option maxRecDepth 100000 in
set_option maxHeartbeats 4000000 in
theorem l5First_any (n : Nat) (hn : n ≤ 12) (xss : List (List Int)) (hc : ∀ c ∈ xss, ClS c) (hl : xss.length ≤ 1000000) (A : Option Addr) (cap : Nat) (w : World) (hx : ClsAt w A xss) :
    Calls Try.prog 191 #[.int .i64 n, .slice A xss.length cap] w fun e w' => e = .returned (.int .i64 (idxP (modT xss) (List.range (2 ^ n)))) ∧ Below w.heap.size w w' := by
  obtain ⟨hsh, hp⟩ := pow12 hn
  have hcall := Lib.hid (fun b (hb : b < 4096) W (h : Below w.heap.size w W) => l5All_any xss hc hl A cap b (Nat.lt_trans hb (by decide)) W (hx.grow h))
  clear hc hx
  generalize 2 ^ n = N at *
  go_enter Try.func191, Try.ntmps191
  go_wp2_with fail
  go_loopw [5] (fun vi wr => ∃ k : Nat, k ≤ N ∧ vi = .int .i64 k ∧ Hid ((List.range k).any (modT xss) = false) ∧ Hid (Below w.heap.size w wr)) (fun vi _ => N - (intOf vi).toNat)
  case atStart => exact ⟨0, Nat.zero_le _, rfl, rfl, bb _⟩
  case round =>
    obtain ⟨k, hk, rfl, hno, HB⟩ := hrel
    by_cases hlt : k < N
    · have d0 : decide ((k : Int) < (N : Int)) = true := decide_eq_true (Int.ofNat_lt.2 hlt)
      have hk4 : k < 4096 := Nat.lt_of_lt_of_le hlt hp
      have hall := Lib.hid (hcall.out k hk4 wr HB.out)
      have hat := Lib.hid (fun h => first_at hlt hno.out h)
      have hnx := Lib.hid (rany_next (p := modT xss) (k := k))
      rw [hno.out] at hnx
      generalize modT xss k = q at *
      go_wp2_with fail
      refine hall.out.mono ?_
      rintro e w3 ⟨rfl, hb3⟩
      have HB2 := Lib.hid (btr HB.out hb3)
      clear HB hall hb3
      cases q
      · go_wp2_with fail
        go_roundw
        case rel => exact ⟨k + 1, by omega, by go_num, hnx, HB2⟩
        case measure => simp [intOf]; omega
      · have hz := hat.out rfl
        clear hat hnx
        go_wp2_with fail
        go_ret
        exact ⟨ret_int hz.symm, HB2.out⟩
    · obtain rfl : k = N := by omega
      have d0 : decide ((k : Int) < (k : Int)) = false := by simp
      have hz := first_no hno.out
      go_wp2_with fail
      go_ret
      exact ⟨ret_int hz.symm, HB.out⟩

set_option maxHeartbeats 4000000 in
theorem l5Sat_any (n : Nat) (hn : n ≤ 12) (xss : List (List Int)) (hc : ∀ c ∈ xss, ClS c) (hl : xss.length ≤ 1000000) (A : Option Addr) (cap : Nat) (w : World) (hx : ClsAt w A xss) :
    Calls Try.prog 96 #[.agg #[.int .i64 n, .slice A xss.length cap]] w fun e w' => e = .returned (.bool ((List.range (2 ^ n)).any (modT xss))) ∧ Below w.heap.size w w' := by
  have S0 := (Sp.start w).alloc_box #[.int .i64 n, .slice A xss.length cap] 26
  have c0 := S0.cell (i := 0) rfl (o := 0) rfl
  have c1 := S0.cell (i := 0) rfl (o := 1) rfl
  have hcall := Lib.hid (l5First_any n hn xss hc hl A cap _ (hx.grow S0.below))
  have hge := idxP_ge (modT xss) (List.range (2 ^ n))
  replace S0 := Lib.hid S0
  clear hc hx
  generalize (List.range (2 ^ n)).any (modT xss) = q at *
  generalize idxP (modT xss) (List.range (2 ^ n)) = z at *
  go_enter Try.func96, Try.ntmps96
  go_wp2_with fail
  refine hcall.out.mono ?_
  rintro e w1 ⟨rfl, hb1⟩
  have hB := Lib.hid (S0.out.grow hb1).below
  clear S0 hcall hb1 c0 c1
  subst hge
  go_wp2_with fail
  go_ret
  exact ⟨rfl, hB.out⟩

set_option maxRecDepth 100000 in
set_option maxHeartbeats 4000000 in
theorem l5Implies_any (n : Nat) (hn : n ≤ 12) (xss : List (List Int)) (hc : ∀ c ∈ xss, ClS c) (hl : xss.length ≤ 1000000) (A : Option Addr) (cap : Nat) (d : List Int) (hd : ClS d) (D : Option Addr) (dc : Nat) (w : World) (hx : ClsAt w A xss) (hy : IntsAt w D d) :
    Calls Try.prog 97 #[.agg #[.int .i64 n, .slice A xss.length cap], .slice D d.length dc] w fun e w' => e = .returned (.bool (!((List.range (2 ^ n)).any fun b => !clT d b && modT xss b))) ∧ Below w.heap.size w w' := by
  obtain ⟨hsh, hp⟩ := pow12 hn
  have S0 := (Sp.start w).alloc_box #[.int .i64 n, .slice A xss.length cap] 26
  have hcall := Lib.hid (fun b (hb : b < 4096) W (h : Below w.heap.size w W) => l5All_any xss hc hl A cap b (Nat.lt_trans hb (by decide)) W (hx.grow h))
  have htr := Lib.hid (fun b (hb : b < 4096) W (h : Below w.heap.size w W) => l5True_any d hd.1 (Nat.le_trans hd.2 (by omega)) D dc b (Nat.lt_trans hb (by decide)) W (hy.grow h))
  replace S0 := Lib.hid S0
  clear hc hx hd hy
  generalize 2 ^ n = N at *
  go_enter Try.func97, Try.ntmps97
  go_wp2_with fail
  go_loopw [5] (fun vi wr => ∃ k : Nat, k ≤ N ∧ vi = .int .i64 k ∧ Hid ((List.range k).any (fun b => !clT d b && modT xss b) = false) ∧ Hid (Sp w wr [Box w.heap.size 26 #[.int .i64 n, .slice A xss.length cap]])) (fun vi _ => N - (intOf vi).toNat)
  case atStart => exact ⟨0, Nat.zero_le _, rfl, rfl, S0⟩
  case round =>
    obtain ⟨k, hk, rfl, hno, HS⟩ := hrel
    clear S0
    have c0 := HS.out.cell (i := 0) rfl (o := 0) rfl
    by_cases hlt : k < N
    · have d0 : decide ((k : Int) < (N : Int)) = true := decide_eq_true (Int.ofNat_lt.2 hlt)
      have hk4 : k < 4096 := Nat.lt_of_lt_of_le hlt hp
      have h1 := Lib.hid (htr.out k hk4 wr HS.out.below)
      have h2 := Lib.hid (fun W h => hcall.out k hk4 W h)
      have hat := Lib.hid (fun h => rany_yes (p := fun b => !clT d b && modT xss b) hlt h)
      have hnx := Lib.hid (rany_next (p := fun b => !clT d b && modT xss b) (k := k))
      rw [hno.out] at hnx
      generalize modT xss k = q at *
      generalize clT d k = r at *
      go_wp2_with fail
      refine h1.out.mono ?_
      rintro e w3 ⟨rfl, hb3⟩
      have S3 := Lib.hid (HS.out.grow hb3)
      have c1 := S3.out.cell (i := 0) rfl (o := 1) rfl
      clear HS h1 hb3 c0
      cases r
      · go_wp2_with fail
        refine (h2.out _ S3.out.below).mono ?_
        rintro e w4 ⟨rfl, hb4⟩
        have S4 := Lib.hid (S3.out.grow hb4)
        clear S3 h2 hb4 c1
        cases q
        · go_wp2_with fail
          go_roundw
          case rel => exact ⟨k + 1, by omega, by go_num, hnx, S4⟩
          case measure => simp [intOf]; omega
        · have hz := hat.out rfl
          have hB := Lib.hid S4.out.below
          clear hat hnx S4
          go_wp2_with fail
          go_ret
          exact ⟨ret_bool (by rw [hz]; rfl), hB.out⟩
      · clear c1
        go_wp2_with fail
        go_roundw
        case rel => exact ⟨k + 1, by omega, by go_num, hnx, S3⟩
        case measure => simp [intOf]; omega
    · obtain rfl : k = N := by omega
      have d0 : decide ((k : Int) < (k : Int)) = false := by simp
      have hB := Lib.hid HS.out.below
      have hz := hno.out
      clear HS
      go_wp2_with fail
      go_ret
      exact ⟨ret_bool (by rw [hz]; rfl), hB.out⟩
end Go.Proofs.Ytmikconjhmhekaa

/- Contracts: the cursor that draws from bytes. -/
namespace Go.Proofs.Ytmikconjhmhekaa
open Go.RowKit

/-- The bytes that a slice holds can be read. -/
def CodeOk (w : World) (ca : Option Addr) (cl : Nat) : Prop := ∀ j, j < cl → ∃ cb off x, ca = some ⟨cb, off, none⟩ ∧ w.cell? ⟨cb, off + j, none⟩ = some (.int .u8 x) ∧ 0 ≤ x ∧ x ≤ 255
/-- The cursor's block. -/
structure CurIs (A : Nat) (g : Nat) (ca : Option Addr) (cl cc : Nat) (w : World) : Prop where
  ok : ∃ (i : Nat) (s : Int), w.heap[g]? = some (.cells #[.slice ca cl cc, .int .i64 i, .int .u64 s] 98 (0, 0)) ∧ i ≤ A ∧ 0 ≤ s ∧ s < 18446744073709551616
  code : CodeOk w ca cl
  far : 0 < cl → ∀ a, ca = some a → a.block ≠ g
  small : cl ≤ 65536
theorem CodeOk.keep {w w' : World} {ca : Option Addr} {cl : Nat} (h : CodeOk w ca cl) (hk : ∀ a, ca = some a → w'.heap[a.block]? = w.heap[a.block]?) : CodeOk w' ca cl := fun j hj => by
  obtain ⟨cb, off, x, rfl, h1, h2⟩ := h j hj
  exact ⟨cb, off, x, rfl, (World.cell?_of_block (a := ⟨cb, off + j, none⟩) (hk ⟨cb, off, none⟩ rfl)).trans h1, h2⟩
theorem CodeOk.lt {w : World} {ca : Option Addr} {cl : Nat} (h : CodeOk w ca cl) (hl : 0 < cl) : ∀ a, ca = some a → a.block < w.heap.size := by
  obtain ⟨cb, off, x, rfl, h1, _⟩ := h 0 hl
  rintro a e
  cases e
  exact World.block_lt_of_cell? _ _ h1
theorem CodeOk.zero (w : World) (ca : Option Addr) : CodeOk w ca 0 := fun j hj => absurd hj (by omega)
theorem CodeOk.grow {w w' : World} {ca : Option Addr} {cl : Nat} (h : CodeOk w ca cl) (hb : Below w.heap.size w w') : CodeOk w' ca cl := by
  rcases Nat.eq_zero_or_pos cl with rfl | hl
  · exact .zero _ _
  · exact h.keep fun a ha => hb.block _ (h.lt hl a ha)
theorem CurIs.lt {A g : Nat} {ca : Option Addr} {cl cc : Nat} {w : World} (h : CurIs A g ca cl cc w) : g < w.heap.size := by
  obtain ⟨i, s, h, _⟩ := h.ok
  rcases Nat.lt_or_ge g w.heap.size with h' | h'
  · exact h'
  · rw [Array.getElem?_eq_none h'] at h; cases h
theorem CurIs.mono {A A' g : Nat} {ca : Option Addr} {cl cc : Nat} {w : World} (h : CurIs A g ca cl cc w) (hA : A ≤ A') : CurIs A' g ca cl cc w := by
  obtain ⟨⟨i, s, h1, h2, h3⟩, h4, h5, h6⟩ := h
  exact ⟨⟨i, s, h1, by omega, h3⟩, h4, h5, h6⟩
theorem CurIs.grow {A g : Nat} {ca : Option Addr} {cl cc : Nat} {w w' : World} (h : CurIs A g ca cl cc w) (hb : Below w.heap.size w w') : CurIs A g ca cl cc w' := by
  have hlt := h.lt
  obtain ⟨⟨i, s, h1, h2⟩, h4, h5, h6⟩ := h
  refine ⟨⟨i, s, (hb.block g hlt).trans h1, h2⟩, ?_, h5, h6⟩
  rcases Nat.eq_zero_or_pos cl with rfl | hl
  · exact .zero _ _
  · exact h4.keep fun a ha => hb.block _ (h4.lt hl a ha)
/-- A call that turns the cursor alone. -/
def CurPost (R : Value → Prop) (A g : Nat) (ca : Option Addr) (cl cc : Nat) (w : World) (e : Ending) (w' : World) : Prop := ∃ v, R v ∧ e = .returned v ∧ CurIs A g ca cl cc w' ∧ Chg [g] w w'
/-- A number in bounds. -/
def IntIn (lo hi : Int) (v : Value) : Prop := ∃ n : Int, lo ≤ n ∧ n ≤ hi ∧ v = .int .i64 n
/-- The part of the memory that the cursor is. -/
def CurA (A g : Nat) (ca : Option Addr) (cl cc : Nat) : Asn where
  p w F := F = [g] ∧ ∃ (i : Nat) (s : Int), w.heap[g]? = some (.cells #[.slice ca cl cc, .int .i64 i, .int .u64 s] 98 (0, 0)) ∧ i ≤ A ∧ 0 ≤ s ∧ s < 18446744073709551616
  lt := by
    rintro w F ⟨rfl, i, s, h, _⟩ b hb
    obtain rfl : b = g := by simpa using hb
    rcases Nat.lt_or_ge b w.heap.size with h' | h'
    · exact h'
    · rw [Array.getElem?_eq_none h'] at h; cases h
  keep := by
    rintro w w' F ⟨rfl, i, s, h, h2⟩ hk
    exact ⟨rfl, i, s, (hk g (by simp)).trans h, h2⟩
section
variable {w0 w w' : World} {ps : List Asn} {i A A' g cl cc : Nat} {ca : Option Addr}
theorem Sp.cur (h : Sp w0 w ps) (hi : ps[i]? = some (CurA A g ca cl cc)) (hc : CodeOk w0 ca cl) (hs : cl ≤ 65536) :
    CurIs A g ca cl cc w ∧ ∀ w', CurIs A' g ca cl cc w' → Chg [g] w w' → Sp w0 w' (ps.set i (CurA A' g ca cl cc)) := by
  obtain ⟨F, ⟨rfl, hh⟩, hF, hall⟩ := h.upd hi
  have hg := hF g (by simp)
  refine ⟨⟨hh, hc.grow h.below, fun hp a ha => by have := hc.lt hp a ha; omega, hs⟩, fun w' h1 h2 => hall w' _ [g] h2 ⟨rfl, h1.ok⟩ fun b hb => .inl hb⟩
end

theorem u64_in (x : Int) : 0 ≤ IntKind.u64.wrap x ∧ IntKind.u64.wrap x < 18446744073709551616 := by
  have h : IntKind.u64.wrap x = x % 18446744073709551616 := by rfl
  rw [h]; omega
theorem and255 (y : Int) : 0 ≤ bits .and .u64 y 255 ∧ bits .and .u64 y 255 ≤ 255 := by
  have h : bits .and .u64 y 255 = IntKind.u64.wrap (((BitVec.ofInt 64 y &&& BitVec.ofInt 64 255).toNat : Nat) : Int) := rfl
  have h2 : (BitVec.ofInt 64 y &&& BitVec.ofInt 64 255).toNat ≤ 255 := by
    rw [BitVec.toNat_and]
    exact Nat.le_trans Nat.and_le_right (by decide)
  rw [h, IntKind.wrap_u64]
  omega
theorem and255w (y : Int) : 0 ≤ wrap64 (bits .and .u64 y 255) ∧ wrap64 (bits .and .u64 y 255) ≤ 255 := by
  have := and255 y
  unfold wrap64
  omega
theorem cur_step {A g cl cc i : Nat} {ca : Option Addr} {w : World} {s s' : Int} (hg : w.heap[g]? = some (.cells #[.slice ca cl cc, .int .i64 i, .int .u64 s] 98 (0, 0))) (hi : i ≤ A) (hs : 0 ≤ s' ∧ s' < 18446744073709551616)
    (hcode : CodeOk w ca cl) (hfar : 0 < cl → ∀ a, ca = some a → a.block ≠ g) (hsm : cl ≤ 65536) (n m : Nat) :
    CurIs (A + 1) g ca cl cc ((((w.drewN n).setCell ⟨g, 1, none⟩ (.int .i64 ((i : Int) + 1))).setCell ⟨g, 2, none⟩ (.int .u64 s')).drewN m) ∧ Chg [g] w ((((w.drewN n).setCell ⟨g, 1, none⟩ (.int .i64 ((i : Int) + 1))).setCell ⟨g, 2, none⟩ (.int .u64 s')).drewN m) := by
  have hother : ∀ k, k ≠ g → ((((w.drewN n).setCell ⟨g, 1, none⟩ (.int .i64 ((i : Int) + 1))).setCell ⟨g, 2, none⟩ (.int .u64 s')).drewN m).heap[k]? = w.heap[k]? := fun k hk => by
    show (((w.drewN n).setCell ⟨g, 1, none⟩ (.int .i64 ((i : Int) + 1))).setCell ⟨g, 2, none⟩ (.int .u64 s')).heap[k]? = _
    rw [Below.heap_setCell _ _ _ _ hk, Below.heap_setCell _ _ _ _ hk]
    rfl
  have hg' : (w.drewN n).heap[g]? = some (.cells #[.slice ca cl cc, .int .i64 i, .int .u64 s] 98 (0, 0)) := hg
  have hcodeN : CodeOk ((((w.drewN n).setCell ⟨g, 1, none⟩ (.int .i64 ((i : Int) + 1))).setCell ⟨g, 2, none⟩ (.int .u64 s')).drewN m) ca cl := by
    rcases Nat.eq_zero_or_pos cl with h0 | hp
    · rw [h0]; exact .zero _ _
    · exact hcode.keep fun a ha => hother _ (hfar hp a ha)
  refine ⟨⟨⟨i + 1, s', ?_, by omega, hs⟩, hcodeN, hfar, hsm⟩, ⟨rfl, rfl, rfl, by show _ ≤ (((w.drewN n).setCell _ _).setCell _ _).heap.size; simp [World.setCell], fun k _ hn => hother k (by simpa using hn)⟩⟩
  show (((w.drewN n).setCell ⟨g, 1, none⟩ (.int .i64 ((i : Int) + 1))).setCell ⟨g, 2, none⟩ (.int .u64 s')).heap[g]? = _
  simp [World.setCell, Array.getElem?_modify]
  exact ⟨_, hg', rfl⟩

set_option maxRecDepth 100000 in
set_option maxHeartbeats 2000000 in
theorem cur_next (A g : Nat) (ca : Option Addr) (cl cc : Nat) (w : World) (h : CurIs A g ca cl cc w) (hA : A ≤ 1000000000) :
    Calls Try.prog 192 #[.pointer (some ⟨g, 0, none⟩)] w (CurPost (IntIn 0 255) (A + 1) g ca cl cc w) := by
  obtain ⟨⟨i, s, hg, hiA, hs0, hs1⟩, hcode, hfar, hsm⟩ := h
  have S0 : Sp w w [] := Sp.start w
  have c0 : w.cell? ⟨g, 0, none⟩ = some (.slice ca cl cc) := by simp [World.cell?, hg]
  have c1 : w.cell? ⟨g, 1, none⟩ = some (.int .i64 i) := by simp [World.cell?, hg]
  have c2 : w.cell? ⟨g, 2, none⟩ = some (.int .u64 s) := by simp [World.cell?, hg]
  have f1 : w.frozen? ⟨g, 1, none⟩ = false := by simp [World.frozen?, hg]
  have f2 : w.frozen? ⟨g, 2, none⟩ = false := by simp [World.frozen?, hg]
  by_cases hlt : i < cl
  · obtain ⟨cb, off, x, rfl, hx, hx0, hx1⟩ := hcode i hlt
    have hne := hfar (by omega) _ rfl
    have hlt' : (i : Int) < (cl : Int) := by omega
    go_enter Try.func192, Try.ntmps192
    go_wp2_with fail
    go_quiet (fail)
    go_wp2_with fail
    go_quiet (fail)
    go_wp2_with fail
    go_quiet (fail)
    go_wp2_with fail
    go_ret
    obtain ⟨h1, h2⟩ := cur_step hg hiA (u64_in _) hcode hfar hsm _ _
    exact ⟨_, ⟨x, hx0, hx1, rfl⟩, rfl, h1, h2⟩
  · have hge : ¬ (i : Int) < (cl : Int) := by omega
    go_enter Try.func192, Try.ntmps192
    go_wp2_with fail
    go_quiet (fail)
    go_wp2_with fail
    go_quiet (fail)
    go_wp2_with fail
    go_ret
    obtain ⟨h1, h2⟩ := cur_step hg hiA (u64_in _) hcode hfar hsm _ _
    exact ⟨_, ⟨_, (and255w _).1, (and255w _).2, rfl⟩, rfl, h1, h2⟩

theorem Chg.cell {F : List Nat} {w w' : World} {b o : Nat} {v : Value} (h : Chg F w w') (hc : w.cell? ⟨b, o, none⟩ = some v) (hb : b ∉ F) : w'.cell? ⟨b, o, none⟩ = some v :=
  (World.cell?_of_block (a := ⟨b, o, none⟩) (h.block b (World.block_lt_of_cell? _ _ hc) hb)).trans hc

set_option maxHeartbeats 2000000 in
theorem cur_pick (n : Int) (A g : Nat) (ca : Option Addr) (cl cc : Nat) (w : World) (h : CurIs A g ca cl cc w) (hA : A ≤ 100000000) (hn : n ≤ 1000000000) :
    Calls Try.prog 100 #[.pointer (some ⟨g, 0, none⟩), .int .i64 n] w (CurPost (IntIn 0 (if n ≤ 1 then 0 else n - 1)) (A + 2) g ca cl cc w) := by
  by_cases h1 : n ≤ 1
  · rw [if_pos h1]
    go_enter Try.func100, Try.ntmps100
    go_wp2_with fail
    go_ret
    exact ⟨_, ⟨0, by omega, by omega, rfl⟩, rfl, h.mono (by omega), Chg.refl _ _⟩
  rw [if_neg h1]
  have hn1 : 1 < n := by omega
  have hn0 : 0 < n := by omega
  by_cases h2 : 200 < n
  · go_enter Try.func100, Try.ntmps100
    go_wp2_with fail
    refine (cur_next A g ca cl cc w h (by omega)).mono ?_
    rintro e w1 ⟨_, ⟨x, hx0, hx1, rfl⟩, rfl, hi1, hc1⟩
    go_wp2_with fail
    refine (cur_next (A + 1) g ca cl cc w1 hi1 (by omega)).mono ?_
    rintro e w2 ⟨_, ⟨y, hy0, hy1, rfl⟩, rfl, hi2, hc2⟩
    have hxy : 0 ≤ x * 256 + y := by omega
    have hm := Int.emod_nonneg (x * 256 + y) (by omega : n ≠ 0)
    have hm2 := Int.emod_lt_of_pos (x * 256 + y) hn0
    have hc := hc1.trans hc2
    replace hm := Lib.hid hm
    replace hm2 := Lib.hid hm2
    go_wp2_with fail
    go_ret
    exact ⟨_, ⟨_, hm.out, by have := hm2.out; omega, rfl⟩, rfl, hi2, hc⟩
  · go_enter Try.func100, Try.ntmps100
    go_wp2_with fail
    refine (cur_next A g ca cl cc w h (by omega)).mono ?_
    rintro e w1 ⟨_, ⟨x, hx0, hx1, rfl⟩, rfl, hi1, hc1⟩
    have hm := Int.emod_nonneg x (by omega : n ≠ 0)
    have hm2 := Int.emod_lt_of_pos x hn0
    replace hm := Lib.hid hm
    replace hm2 := Lib.hid hm2
    go_wp2_with fail
    go_ret
    exact ⟨_, ⟨_, hm.out, by have := hm2.out; omega, rfl⟩, rfl, hi1.mono (by omega), hc1⟩
theorem cur_pick_at {lo hi : Int} {n : Int} {A g : Nat} {ca : Option Addr} {cl cc : Nat} {w : World} (h : CurIs A g ca cl cc w) (hA : A ≤ 100000000) (hn : n ≤ 1000000000) (h1 : lo ≤ 0) (h2 : 0 ≤ hi) (h3 : n - 1 ≤ hi) :
    Calls Try.prog 100 #[.pointer (some ⟨g, 0, none⟩), .int .i64 n] w (CurPost (IntIn lo hi) (A + 2) g ca cl cc w) :=
  (cur_pick n A g ca cl cc w h hA hn).mono fun e w' ⟨v, ⟨x, hx0, hx1, hx⟩, r⟩ => ⟨v, ⟨x, by omega, by split at hx1 <;> omega, hx⟩, r⟩

/-- Some bool. -/
def IsBool (v : Value) : Prop := ∃ q : Bool, v = .bool q
theorem cur_one (n : Int) (A g : Nat) (ca : Option Addr) (cl cc : Nat) (w : World) (h : CurIs A g ca cl cc w) (hA : A ≤ 100000000) (hn : n ≤ 1000000000) :
    Calls Try.prog 99 #[.pointer (some ⟨g, 0, none⟩), .int .i64 n] w (CurPost IsBool (A + 2) g ca cl cc w) := by
  go_enter Try.func99, Try.ntmps99
  go_wp2_with fail
  refine (cur_pick n A g ca cl cc w h hA hn).mono ?_
  rintro e w1 ⟨_, ⟨x, _, _, rfl⟩, rfl, hi1, hc1⟩
  go_wp2_with fail
  go_ret
  exact ⟨_, ⟨_, rfl⟩, rfl, hi1, hc1⟩

/-- A string of which R holds. -/
def StrR (R : ByteArray → Prop) (v : Value) : Prop := ∃ s, R s ∧ v = .string s
/-- A list of strings of which R holds. -/
def StrsR (R : ByteArray → Prop) (w : World) (b off m : Nat) : Prop := ∀ j, j < m → ∃ s, R s ∧ w.cell? ⟨b, off + j, none⟩ = some (.string s)

set_option maxHeartbeats 2000000 in
theorem cur_of (R : ByteArray → Prop) (b off m c : Nat) (A g : Nat) (ca : Option Addr) (cl cc : Nat) (w : World) (h : CurIs A g ca cl cc w) (hA : A ≤ 100000000) (hm0 : 0 < m) (hm : m ≤ 1000000) (hs : StrsR R w b off m) (hb : b ≠ g) :
    Calls Try.prog 200 #[.pointer (some ⟨g, 0, none⟩), .slice (some ⟨b, off, none⟩) m c] w (CurPost (StrR R) (A + 2) g ca cl cc w) := by
  go_enter Try.func200, Try.ntmps200
  go_wp2_with fail
  refine (cur_pick_at (lo := 0) (hi := (m : Int) - 1) h hA (by omega) (by omega) (by omega) (by omega)).mono ?_
  rintro e w1 ⟨_, ⟨x, hx0, hx1, rfl⟩, rfl, hi1, hc1⟩
  obtain ⟨k, rfl⟩ := Int.eq_ofNat_of_zero_le hx0
  have hk : k < m := by omega
  have hk' : (k : Int) < (m : Int) := by omega
  obtain ⟨s, hR, hcell⟩ := hs k hk
  have k0 := hc1.cell hcell (by simpa using hb)
  clear hx1
  go_wp2_with fail
  go_ret
  exact ⟨_, ⟨s, hR, rfl⟩, rfl, hi1, hc1⟩

set_option maxHeartbeats 2000000 in
theorem cur_among (lo hi : Int) (b off m c : Nat) (A g : Nat) (ca : Option Addr) (cl cc : Nat) (w : World) (h : CurIs A g ca cl cc w) (hA : A ≤ 100000000) (hm0 : 0 < m) (hm : m ≤ 1000000) (hs : ∀ j, j < m → ∃ x, lo ≤ x ∧ x ≤ hi ∧ w.cell? ⟨b, off + j, none⟩ = some (.int .i64 x)) (hb : b ≠ g) :
    Calls Try.prog 166 #[.pointer (some ⟨g, 0, none⟩), .slice (some ⟨b, off, none⟩) m c] w (CurPost (IntIn lo hi) (A + 2) g ca cl cc w) := by
  go_enter Try.func166, Try.ntmps166
  go_wp2_with fail
  refine (cur_pick_at (lo := 0) (hi := (m : Int) - 1) h hA (by omega) (by omega) (by omega) (by omega)).mono ?_
  rintro e w1 ⟨_, ⟨x, hx0, hx1, rfl⟩, rfl, hi1, hc1⟩
  obtain ⟨k, rfl⟩ := Int.eq_ofNat_of_zero_le hx0
  have hk : k < m := by omega
  have hk' : (k : Int) < (m : Int) := by omega
  obtain ⟨y, hy0, hy1, hcell⟩ := hs k hk
  have k0 := hc1.cell hcell (by simpa using hb)
  clear hx1
  go_wp2_with fail
  go_ret
  exact ⟨_, ⟨y, hy0, hy1, rfl⟩, rfl, hi1, hc1⟩
end Go.Proofs.Ytmikconjhmhekaa

/- Memory in parts beside a cursor that turns. -/
namespace Go.Proofs.Ytmikconjhmhekaa
open Go.RowKit

theorem ints_new {lo hi : Int} {W : World} {cs : Array Value} {t : TypeId} {b n : Nat} (hb : b = W.heap.size) (h : ∀ j, j < n → ∃ x, cs[j]? = some (.int .i64 x) ∧ lo ≤ x ∧ x ≤ hi) : ∀ j, j < n → ∃ x, lo ≤ x ∧ x ≤ hi ∧ (W.alloc (.cells cs t)).cell? ⟨b, 0 + j, none⟩ = some (.int .i64 x) := fun j hj => by
  obtain ⟨x, h1, h2, h3⟩ := h j hj
  subst hb
  refine ⟨x, h2, h3, ?_⟩
  rw [Nat.zero_add]
  exact (cell_of_row _ _ _ _ _ _ (heap_alloc_new W _)).trans h1
theorem CurPost.chg {R : Value → Prop} {A g : Nat} {ca : Option Addr} {cl cc : Nat} {w w1 : World} {e : Ending} {w' : World} (h : CurPost R A g ca cl cc w1 e w') (hc : Chg [g] w w1) : CurPost R A g ca cl cc w e w' := by
  obtain ⟨v, h1, h2, h3, h4⟩ := h
  exact ⟨v, h1, h2, h3, hc.trans h4⟩
theorem CurIs.stay {A A' g cl cc : Nat} {ca : Option Addr} {w W W' : World} (h : CurIs A g ca cl cc w) (hi : CurIs A' g ca cl cc W) (hk : ∀ k, k < w.heap.size → W'.heap[k]? = W.heap[k]?) : CurIs A' g ca cl cc W' := by
  have hg := h.lt
  have hl := h.code
  obtain ⟨⟨i, s, h1, h2⟩, h3, h4, h5⟩ := hi
  refine ⟨⟨i, s, (hk g hg).trans h1, h2⟩, ?_, h4, h5⟩
  rcases Nat.eq_zero_or_pos cl with rfl | hp
  · exact .zero _ _
  · exact h3.keep fun a ha => hk _ (hl.lt hp a ha)

/-- Parts of the call's own, beside a cursor g that was there. -/
def CS (w0 : World) (g : Nat) (ca : Option Addr) (cl cc A : Nat) (w : World) (ps : List Asn) : Prop :=
  (∃ A0, CurIs A0 g ca cl cc w0) ∧ CurIs A g ca cl cc w ∧ Chg [g] w0 w ∧ ∃ F, sep ps w F ∧ ∀ b ∈ F, w0.heap.size ≤ b
section
variable {w0 w w' w1 : World} {g cl cc A A' i b o n n' size : Nat} {ca : Option Addr} {ps : List Asn} {q : Asn} {t e : TypeId} {cs : Array Value} {v v' : Value} {xs xs' : List Value}
theorem CS.start (h : CurIs A g ca cl cc w) : CS w g ca cl cc A w [] := ⟨⟨A, h⟩, h, Chg.refl _ _, [], rfl, by simp⟩
theorem CS.cur (h : CS w0 g ca cl cc A w ps) : CurIs A g ca cl cc w := h.2.1
theorem CS.chg (h : CS w0 g ca cl cc A w ps) : Chg [g] w0 w := h.2.2.1
theorem CS.glt (h : CS w0 g ca cl cc A w ps) : g < w0.heap.size := by obtain ⟨⟨A0, h0⟩, _⟩ := h; exact h0.lt
theorem CS.mono (h : CS w0 g ca cl cc A w ps) (hA : A ≤ A') : CS w0 g ca cl cc A' w ps := ⟨h.1, h.2.1.mono hA, h.2.2⟩
theorem CS.turn (h : CS w0 g ca cl cc A w ps) (hi : CurIs A' g ca cl cc w') (hc : Chg [g] w w') : CS w0 g ca cl cc A' w' ps := by
  have hg := h.glt
  obtain ⟨h0, h1, h2, F, h3, h4⟩ := h
  exact ⟨h0, hi, h2.trans hc, F, sep_keep h3 fun b hm => hc.block b (sep_lt h3 b hm) fun hb => by
    obtain rfl : b = g := by simpa using hb
    have := h4 b hm; omega, h4⟩
theorem CS.grow (h : CS w0 g ca cl cc A w ps) (hb : Below w.heap.size w w') : CS w0 g ca cl cc A w' ps := by
  obtain ⟨h0, h1, h2, F, h3, h4⟩ := h
  exact ⟨h0, h1.grow hb, h2.then hb, F, sep_keep h3 fun b hm => hb.block b (sep_lt h3 b hm), h4⟩
theorem CS.new {F : List Nat} (h : CS w0 g ca cl cc A w ps) (hb : Below w.heap.size w w') (hq : q.p w' F) (hF : ∀ b ∈ F, w.heap.size ≤ b) : CS w0 g ca cl cc A w' (q :: ps) := by
  have hsz := h.chg.size
  obtain ⟨h0, h1, h2, F', h3, h4⟩ := h
  refine ⟨h0, h1.grow hb, h2.then hb, F ++ F', ⟨F, F', rfl, fun b hm hm2 => ?_, hq, sep_keep h3 fun b hm => hb.block b (sep_lt h3 b hm)⟩, fun b hm => ?_⟩
  · have := hF b hm; have := sep_lt h3 b hm2; omega
  · rcases List.mem_append.1 hm with hm | hm
    · have := hF b hm; omega
    · exact h4 b hm
theorem CS.upd (h : CS w0 g ca cl cc A w ps) (hi : ps[i]? = some q) : ∃ Fi, q.p w Fi ∧ (∀ b ∈ Fi, w0.heap.size ≤ b) ∧
    ∀ w' q' Fi', Chg Fi w w' → q'.p w' Fi' → (∀ b ∈ Fi', b ∈ Fi ∨ w.heap.size ≤ b) → CS w0 g ca cl cc A w' (ps.set i q') := by
  have hsz := h.chg.size
  obtain ⟨h0, h1, h2, F, h3, h4⟩ := h
  obtain ⟨Fi, hp, hsub, hall⟩ := sep_upd h3 hi
  refine ⟨Fi, hp, fun b hb => h4 b (hsub b hb), fun w' q' Fi' hc hq hF => ?_⟩
  obtain ⟨F', hs, hF'⟩ := hall w' q' Fi' hc hq hF
  have hk : ∀ k, k < w0.heap.size → w'.heap[k]? = w.heap[k]? := fun k hk => hc.block k (Nat.lt_of_lt_of_le hk hsz) fun hm => by have := h4 k (hsub k hm); omega
  obtain ⟨A0, h0'⟩ := h0
  exact ⟨⟨A0, h0'⟩, h0'.stay h1 hk, ⟨hc.os.trans h2.os, hc.tape.trans h2.tape, hc.output.trans h2.output, Nat.le_trans h2.size hc.size, fun k hk' hn => (hk k hk').trans (h2.block k hk' hn)⟩, F', hs, fun b hb => (hF' b hb).elim (h4 b) (Nat.le_trans hsz)⟩
theorem CS.get (h : CS w0 g ca cl cc A w ps) (hi : ps[i]? = some q) : ∃ Fi, q.p w Fi ∧ (∀ b ∈ Fi, w0.heap.size ≤ b) := by
  obtain ⟨Fi, h1, h2, _⟩ := h.upd hi
  exact ⟨Fi, h1, h2⟩
theorem CS.tail (h : CS w0 g ca cl cc A w (q :: ps)) : CS w0 g ca cl cc A w ps := by
  obtain ⟨h0, h1, h2, F, ⟨F1, F2, rfl, _, _, h3⟩, h4⟩ := h
  exact ⟨h0, h1, h2, F2, h3, fun b hb => h4 b (List.mem_append.2 (.inr hb))⟩
theorem CS.swap {q' : Asn} (h : CS w0 g ca cl cc A w (q :: q' :: ps)) : CS w0 g ca cl cc A w (q' :: q :: ps) := by
  obtain ⟨h0, h1, h2, F, ⟨F1, F2, rfl, hd, hq, F3, F4, rfl, hd2, hq', h3⟩, h4⟩ := h
  refine ⟨h0, h1, h2, F3 ++ (F1 ++ F4), ⟨F3, F1 ++ F4, rfl, fun b hb hb2 => ?_, hq', F1, F4, rfl, fun b hb hb2 => hd b hb (List.mem_append.2 (.inr hb2)), hq, h3⟩, fun b hb => ?_⟩
  · rcases List.mem_append.1 hb2 with hb2 | hb2
    · exact hd b hb2 (List.mem_append.2 (.inl hb))
    · exact hd2 b hb hb2
  · apply h4
    simp only [List.mem_append] at hb ⊢
    rcases hb with h | h | h
    · exact .inr (.inl h)
    · exact .inl h
    · exact .inr (.inr h)
theorem CS.third {q1 q2 q3 : Asn} (h : CS w0 g ca cl cc A w (q1 :: q2 :: q3 :: ps)) : CS w0 g ca cl cc A w (q1 :: q2 :: ps) := by
  obtain ⟨h0, h1, h2, F, ⟨F1, F2, rfl, hd, hq, F3, F4, rfl, hd2, hq', F5, F6, rfl, hd3, hq3, h3⟩, h4⟩ := h
  refine ⟨h0, h1, h2, F1 ++ (F3 ++ F6), ⟨F1, F3 ++ F6, rfl, fun b hb hb2 => hd b hb ?_, hq, F3, F6, rfl, fun b hb hb2 => hd2 b hb (List.mem_append.2 (.inr hb2)), hq', h3⟩, fun b hb => h4 b ?_⟩
  · rcases List.mem_append.1 hb2 with h | h
    · exact List.mem_append.2 (.inl h)
    · exact List.mem_append.2 (.inr (List.mem_append.2 (.inr h)))
  · simp only [List.mem_append] at hb ⊢
    rcases hb with h | h | h
    · exact .inl h
    · exact .inr (.inl h)
    · exact .inr (.inr (.inr h))
/-- The second part is let go. -/
theorem CS.third2 {q1 q2 : Asn} (h : CS w0 g ca cl cc A w (q1 :: q2 :: ps)) : CS w0 g ca cl cc A w (q1 :: ps) := h.swap.tail
theorem CS.drew (h : CS w0 g ca cl cc A w ps) : CS w0 g ca cl cc A w.drew ps := h.grow (bdr (bb _))
theorem CS.alloc (h : CS w0 g ca cl cc A w ps) (o : Obj) : CS w0 g ca cl cc A (w.alloc o) ps := h.grow (bal (bb _) o)
theorem CS.alloc_box (h : CS w0 g ca cl cc A w ps) (cs : Array Value) (t : TypeId) : CS w0 g ca cl cc A (w.alloc (.cells cs t)) (Box w.heap.size t cs :: ps) :=
  h.new (bal (bb _) _) (F := [w.heap.size]) ⟨rfl, heap_alloc_new w _⟩ (by simp)
theorem CS.box (h : CS w0 g ca cl cc A w ps) (hi : ps[i]? = some (Box b t cs)) : w0.heap.size ≤ b ∧ b < w.heap.size ∧ w.heap[b]? = some (.cells cs t (0, 0)) := by
  obtain ⟨F, hp, hF⟩ := h.get hi
  have hlt := (Box b t cs).lt hp b
  obtain ⟨rfl, hh⟩ := hp
  exact ⟨hF b (by simp), hlt (by simp), hh⟩
theorem CS.cell (h : CS w0 g ca cl cc A w ps) (hi : ps[i]? = some (Box b t cs)) {u : Value} (ho : cs[o]? = some u) : w.cell? ⟨b, o, none⟩ = some u := by
  simp [World.cell?, (h.box hi).2.2, ho]
theorem CS.frozen (h : CS w0 g ca cl cc A w ps) (hi : ps[i]? = some (Box b t cs)) (o : Nat) : w.frozen? ⟨b, o, none⟩ = false := by
  simp [World.frozen?, (h.box hi).2.2]
theorem CS.store (h : CS w0 g ca cl cc A w ps) (hi : ps[i]? = some (Box b t cs)) (o : Nat) (u : Value) : CS w0 g ca cl cc A (w.setCell ⟨b, o, none⟩ u) (ps.set i (Box b t (cs.setIfInBounds o u))) := by
  obtain ⟨Fi, ⟨rfl, hh⟩, hF, hall⟩ := h.upd hi
  exact hall _ (Box b t (cs.setIfInBounds o u)) [b] ((Chg.refl _ _).set (by simp) _) ⟨rfl, by simp [World.setCell, Array.getElem?_modify, hh]⟩ fun b hb => .inl hb
theorem CS.own (h : CS w0 g ca cl cc A w ps) (hi : ps[i]? = some (Own e size v n xs)) : w.ownsRow 0 e size v n xs := by
  obtain ⟨F, hp, _⟩ := h.get hi
  exact hp.2
theorem CS.owns_end (h : CS w0 g ca cl cc A w ps) (hi : ps[i]? = some (Own e size v n xs)) : w.ownsRow w0.heap.size e size v n xs := by
  obtain ⟨F, ⟨rfl, h1⟩, h2⟩ := h.get hi
  exact owns_base h1 fun g hg => h2 g (by simp [hg])
theorem CS.own_new (h : CS w0 g ca cl cc A w ps) (hb : Below w.heap.size w w') (ho : w'.ownsRow 0 e size v n xs) (hv : ∀ g, v.ownBlock = some g → w.heap.size ≤ g) : CS w0 g ca cl cc A w' (Own e size v n xs :: ps) :=
  h.new hb (F := v.ownBlock.toList) ⟨rfl, ho⟩ fun b hm => hv b (by simpa using hm)
theorem CS.own_made (h : CS w0 g ca cl cc A w ps) (e : TypeId) (size : Nat) : CS w0 g ca cl cc A (w.alloc (.cells #[] e)) (Own e size (.slice (some ⟨w.heap.size, 0, none⟩) 0 0) 0 [] :: ps) :=
  h.own_new (bal (bb _) _) ⟨by simp, .inr ⟨w.heap.size, 0, #[], rfl, Nat.zero_le _, heap_alloc_new w _, Nat.le_refl _, by decide, by simp, by simp⟩⟩ (fun g hg => by
    have : w.heap.size = g := by simpa [Value.ownBlock] using hg
    omega)
theorem CS.own_push (h : CS w0 g ca cl cc A w ps) (hi : ps[i]? = some (Own e size v n xs)) (hb : Below w.heap.size w w1) (ho : w'.ownsRow 0 e size v' n' xs') (hg : w1.grownBy w' v.ownBlock)
    (hat : v'.ownBlock = v.ownBlock ∨ v'.ownBlock = some w1.heap.size) : CS w0 g ca cl cc A w' (ps.set i (Own e size v' n' xs')) := by
  obtain ⟨F, ⟨rfl, hh⟩, hF, hall⟩ := h.upd hi
  refine hall w' _ v'.ownBlock.toList ?_ ⟨rfl, ho⟩ fun b hm => ?_
  · exact ⟨hg.os.trans hb.os, hg.tape.trans hb.tape, hg.output.trans hb.output, Nat.le_trans hb.size hg.size, fun k hk hn =>
      (hg.block k (Nat.lt_of_lt_of_le hk hb.size) (fun e => hn (by simp [← e]))).trans (hb.block k hk)⟩
  · rcases hat with h1 | h1
    · exact .inl (by rw [h1] at hm; exact hm)
    · rw [h1] at hm
      obtain rfl : b = w1.heap.size := by simpa using hm
      exact .inr hb.size
/-- A store into an own row. -/
theorem CS.own_put {cap : Nat} {gx : Nat} (h : CS w0 g ca cl cc A w ps) (hi : ps[i]? = some (Own e size (.slice (some ⟨gx, 0, none⟩) n cap) n xs)) (u : Value) (ho : o < n * size) :
    CS w0 g ca cl cc A (w.setCell ⟨gx, o, none⟩ u) (ps.set i (Own e size (.slice (some ⟨gx, 0, none⟩) n cap) n (xs.set o u))) := by
  obtain ⟨F, ⟨rfl, hh⟩, hF, hall⟩ := h.upd hi
  have hlen := hh.1
  obtain ⟨g', cap', cur, e1, h0, hg, hn, hm, hc, ht⟩ := own_block hh (by
    rcases Nat.eq_zero_or_pos n with rfl | h
    · simp at ho
    · exact h)
  simp only [Value.slice.injEq, Option.some.injEq, Addr.mk.injEq] at e1
  obtain ⟨⟨rfl, _⟩, _, rfl⟩ := e1
  have hset : (w.setCell ⟨gx, o, none⟩ u).heap[gx]? = some (.cells (cur.setIfInBounds o u) e (0, 0)) := by
    simp [World.setCell, Array.getElem?_modify]
    exact ⟨_, hg, rfl⟩
  refine hall _ _ [gx] ?_ ⟨rfl, by rw [List.length_set]; exact hlen, .inr ⟨gx, cap, cur.setIfInBounds o u, rfl, Nat.zero_le _, hset, hn, hm, by rw [Array.size_setIfInBounds]; exact hc, ?_⟩⟩ fun b hb => .inl hb
  · exact ⟨rfl, rfl, rfl, by simp [World.setCell], fun k _ hn => Below.heap_setCell _ _ _ _ (by simpa [Value.ownBlock] using hn)⟩
  · rw [Array.toList_setIfInBounds, List.take_set, ht]
/-- Parts of a call's own go in front. -/
theorem CS.seq {qs : List Asn} (h : CS w0 g ca cl cc A w ps) (k : Sp w w' qs) : CS w0 g ca cl cc A w' (qs ++ ps) := by
  have hsz := h.chg.size
  obtain ⟨h0, h1, h2, G, h3, h4⟩ := h
  obtain ⟨k1, F, k2, k3⟩ := k
  refine ⟨h0, h1.grow k1, h2.then k1, F ++ G, sep_append k2 (sep_keep h3 fun b hm => k1.block b (sep_lt h3 b hm)) (fun b hb hb2 => ?_), fun b hb => ?_⟩
  · have := k3 b hb; have := sep_lt h3 b hb2; omega
  · rcases List.mem_append.1 hb with hm | hm
    · have := k3 b hm; omega
    · exact h4 b hm
end
end Go.Proofs.Ytmikconjhmhekaa

/- Contracts: a number in a row, in the reference. -/
namespace Go.Proofs.Ytmikconjhmhekaa
open Go.RowKit

/-- A number is in a row. -/
def hasI (xs : List Int) (x : Int) : Bool := xs.contains x
theorem hasI_no {xs : List Int} {x : Int} {k : Nat} (hk : k < xs.length) (h0 : hasI (xs.take k) x = false) (h : ¬ xs[k] = x) : hasI (xs.take (k + 1)) x = false := by
  unfold hasI at *
  rw [List.take_succ_eq_append_getElem hk, List.contains_append, h0]
  simp
  exact fun e => h e.symm
theorem hasI_yes {xs : List Int} {x : Int} {k : Nat} (hk : k < xs.length) (h : xs[k] = x) : hasI xs x = true := by
  unfold hasI
  subst h
  simp

set_option maxHeartbeats 1000000 in
theorem l1Has_any (v : Value) (xs : List Int) (F : List Nat) (x : Int) (w : World) (h : Ty.int.row false w v xs F) :
    Calls Try.prog 193 #[v, .int .i64 x] w fun e w' => e = .returned (.bool (hasI xs x)) ∧ w = w' := by
  obtain ⟨a, cap, rfl, hx1, hx2, _, hx3⟩ := row_int h
  go_enter Try.func193, Try.ntmps193
  go_wp2_with fail
  go_loopw [5] (fun i wr => ∃ k : Nat, k ≤ xs.length ∧ i = .int .i64 k ∧ Hid (hasI (xs.take k) x = false) ∧ w = wr) (fun i _ => xs.length - (intOf i).toNat)
  case atStart => exact ⟨0, Nat.zero_le _, rfl, by simp [Hid, hasI], rfl⟩
  case round =>
    obtain ⟨k, hk, rfl, HR, rfl⟩ := hrel
    by_cases hlt : k < xs.length
    · rcases hx3 with ⟨rfl, rfl⟩ | ⟨hxn, b, off, rfl, rfl, hxc⟩
      · exact absurd hlt (by simp)
      have k0 := (hxc k hlt).1
      by_cases he : xs[k] = x
      · have HN : Hid (hasI xs x = true) := hasI_yes hlt he
        have he' : (xs[k] == x) = true := by simpa using he
        clear he HR
        go_wp2_with fail
        go_ret
        exact ⟨ret_bool HN.out.symm, rfl⟩
      · have HN : Hid (hasI (xs.take (k + 1)) x = false) := hasI_no hlt HR.out he
        have he' : (xs[k] == x) = false := by simpa using he
        clear he HR
        go_wp2_with fail
        go_roundw
        case rel => exact ⟨k + 1, by omega, by go_num, HN, by first | rfl | trivial⟩
        case measure => simp [intOf]; omega
    · obtain rfl : k = xs.length := by omega
      have HN := HR.out
      rw [List.take_length] at HN
      replace HN := Lib.hid HN
      clear HR
      go_wp2_with fail
      go_ret
      exact ⟨ret_bool HN.out.symm, rfl⟩

set_option maxHeartbeats 1000000 in
theorem l2Has_any (v : Value) (xs : List Int) (F : List Nat) (x : Int) (w : World) (h : Ty.int.row false w v xs F) :
    Calls Try.prog 101 #[v, .int .i64 x] w fun e w' => e = .returned (.bool (hasI xs x)) ∧ w = w' := by
  go_enter Try.func101, Try.ntmps101
  go_wp2_with (go_at_call 193; refine (l1Has_any _ _ _ _ _ h).mono ?_; rintro e w1 ⟨rfl, rfl⟩)
  go_ret
  exact ⟨rfl, rfl⟩
theorem l2Has_at {v : Value} {xs : List Int} {F : List Nat} {x : Int} {w : World} {q : Bool} (h : Ty.int.row false w v xs F) (hq : hasI xs x = q) :
    Calls Try.prog 101 #[v, .int .i64 x] w fun e w' => e = .returned (.bool q) ∧ w = w' := hq ▸ l2Has_any v xs F x w h
end Go.Proofs.Ytmikconjhmhekaa

/- Contracts: clauses in the reference: copying, comparing, finding the place. -/
namespace Go.Proofs.Ytmikconjhmhekaa
open Go.RowKit

/-- An own row of numbers. -/
def OwnsPost (w : World) (xs : List Int) (e : Ending) (w' : World) : Prop := ∃ v, e = .returned v ∧ w'.ownsRow w.heap.size 3 1 v xs.length (xs.map (.int .i64)) ∧ Below w.heap.size w w'
theorem ints_one (xs : List Int) : ∀ u ∈ xs.map (Value.int .i64), u.oneCell' = true := by
  intro u hu
  obtain ⟨x, _, rfl⟩ := List.mem_map.1 hu
  rfl

set_option maxHeartbeats 1000000 in
theorem l1Own_any (v : Value) (xs : List Int) (F : List Nat) (w : World) (h : Ty.int.row false w v xs F) (hl : xs.length ≤ 10000000000) :
    Calls Try.prog 234 #[v] w (OwnsPost w xs) := by
  obtain ⟨i0, hi, hz0, hz1, hz2⟩ := info_parts infoInt
  have S0 := (Sp.start w).own_made 3 1
  have hB0 := S0.below
  obtain ⟨A, c, rfl, hsrc⟩ := row_src_int (Ty.row_grow h hB0)
  replace S0 := Lib.hid S0
  go_enter Try.func234, Try.ntmps234
  go_wp2_with (at_builtin; refine wpList_append_src rfl _ _ rfl Try.underlying30 hi hz0 hz1 hz2 rfl (by decide) _ _ _ rfl (S0.out.own (i := 0) rfl) A xs.length c _ rfl hsrc (ints_one xs) ?c3 ?c4 ?_)
  case c3 => unfold maxLen; omega
  case c4 => omega
  intro v' w1 hown hg hat
  have S1 := S0.out.own_push (i := 0) rfl (bb _) hown hg (by simpa using hat)
  have ho := S1.owns_end (i := 0) rfl
  have hB := S1.below
  obtain ⟨a, c', rfl⟩ := owns_form ho
  replace ho := Lib.hid ho
  clear hown hg hat S1 S0
  go_wp2_with fail
  go_ret
  exact ⟨_, rfl, ho.out, hB⟩

/- left out: the seat has no spec.l1Same -/

/- left out: the seat has no spec.l2Key -/

/- left out: the seat has no spec.l2Before -/
end Go.Proofs.Ytmikconjhmhekaa

/- Contracts: clauses in the reference: a literal put in, a variable left out, resolvents. -/
namespace Go.Proofs.Ytmikconjhmhekaa
open Go.RowKit

/-- A clause without a variable. -/
def withoutB (c : List Int) (v : Int) : List Int := c.filter (fun l => !(absV l == v))
theorem without_step {c : List Int} {v : Int} {k : Nat} {q : Bool} (hk : k < c.length) (h : (absV c[k] == v) = q) : withoutB (c.take (k + 1)) v = withoutB (c.take k) v ++ (if q then [] else [c[k]]) := by
  unfold withoutB
  rw [List.take_succ_eq_append_getElem hk, List.filter_append]
  cases q <;> simp [h]
theorem without_len (c : List Int) (v : Int) (k : Nat) : (withoutB (c.take k) v).length ≤ k := Nat.le_trans (List.length_filter_le _ _) (by rw [List.length_take]; omega)

set_option maxRecDepth 100000 in
set_option maxHeartbeats 2000000 in
theorem l2Without_any (u : Value) (c : List Int) (v : Int) (F : List Nat) (w : World) (hx : Ty.int.row false w u c F) (hc : c.length ≤ 10000000000) :
    Calls Try.prog 194 #[u, .int .i64 v] w (OwnsPost w (withoutB c v)) := by
  obtain ⟨i0, hi, hz0, hz1, hz2⟩ := info_parts infoInt
  obtain ⟨ad, cap, rfl, hx1, hx2, hxI, hx3⟩ := row_int hx
  have S0 := (Sp.start w).own_made 3 1
  replace S0 := Lib.hid S0
  go_enter Try.func194, Try.ntmps194
  go_wp2_with fail
  go_loopw [5, 6] (fun s i wr => ∃ k : Nat, k ≤ c.length ∧ i = .int .i64 k ∧ Sp w wr [Own 3 1 s (withoutB (c.take k) v).length ((withoutB (c.take k) v).map (.int .i64))]) (fun _ i _ => c.length - (intOf i).toNat)
  case atStart => exact ⟨0, Nat.zero_le _, rfl, S0.out⟩
  case round =>
    obtain ⟨k, hk, rfl, HS⟩ := hrel
    have hB := HS.below
    have hown := HS.own (i := 0) rfl
    have hlen := without_len c v k
    obtain ⟨sa, sc, rfl⟩ := owns_form hown
    replace HS := Lib.hid HS
    replace hown := Lib.hid hown
    by_cases hlt : k < c.length
    · rcases hx3 with ⟨rfl, rfl⟩ | ⟨hxn, b, off, rfl, rfl, hxc⟩
      · exact absurd hlt (by simp)
      have k0 := ((hxc k hlt).keep (hB.block b (hxc k hlt).lt)).1
      cases hq : absV c[k] == v
      · have HT : Hid (withoutB (c.take (k + 1)) v = withoutB (c.take k) v ++ [c[k]]) := without_step hlt hq
        have hq' : (absV c[k] != v) = true := by simp [bne, hq]
        have ho2 := Lib.hid ((HS.out.alloc (.cells #[.int .i64 c[k]] 3)).own (i := 0) rfl)
        go_wp2_with (first
          | (go_at_call 196; (with_reducible refine (l2Var_any _ _).mono ?_); rintro e w1 ⟨rfl, rfl⟩)
          | (at_builtin; refine wpList_append_src rfl _ _ rfl Try.underlying30 hi hz0 hz1 hz2 rfl (by decide) _ _ _ rfl ho2.out (some ⟨wr.heap.size, 0, none⟩) 1 1 [.int .i64 c[k]] rfl (Src.one (by simp [go_sem])) (by simp [Value.oneCell']) (by unfold maxLen; omega) (by omega) ?_))
        intro v' w1 hown1 hg1 hat1
        have HN := (HS.out.alloc _).own_push (i := 0) rfl (bb _) hown1 hg1 (by simpa using hat1)
        have HN2 : Sp w w1 [Own 3 1 v' (withoutB (c.take (k + 1)) v).length ((withoutB (c.take (k + 1)) v).map (.int .i64))] := by rw [HT.out, List.length_append, List.map_append]; exact HN
        replace HN2 := Lib.hid HN2
        clear HN hown1 hg1 hat1 HS hown
        go_wp2_with fail
        go_roundw
        case rel => exact ⟨k + 1, by omega, by go_num, HN2.out⟩
        case measure => simp [intOf]; omega
      · have HT : Hid (withoutB (c.take (k + 1)) v = withoutB (c.take k) v) := (without_step hlt hq).trans (List.append_nil _)
        have hq' : (absV c[k] != v) = false := by simp [bne, hq]
        go_wp2_with (go_at_call 196; (with_reducible refine (l2Var_any _ _).mono ?_); rintro e w1 ⟨rfl, rfl⟩)
        go_roundw
        case rel => exact ⟨k + 1, by omega, by go_num, by rw [HT.out]; exact HS.out⟩
        case measure => simp [intOf]; omega
    · obtain rfl : k = c.length := by omega
      have h := HS.out
      rw [List.take_length] at h
      have ho := h.owns_end (i := 0) rfl
      replace ho := Lib.hid ho
      clear hown HS h
      go_wp2_with fail
      go_ret
      rw [List.take_length] at *
      exact ⟨_, rfl, ho.out, hB⟩

theorem row_int_take {wr : Bool} {w : World} {a : Option Addr} {n cap : Nat} {xs : List Int} {F : List Nat} {k : Nat} (h : Ty.int.row wr w (.slice a n cap) xs F) (hk : k ≤ xs.length) :
    ∃ F', Ty.int.row wr w (.slice a k cap) (xs.take k) F' ∧ ∀ b ∈ F', b ∈ F := by
  obtain ⟨a', cap', e, h1, h2, hI, h3⟩ := row_int h
  simp only [Value.slice.injEq] at e
  obtain ⟨rfl, rfl, rfl⟩ := e
  have hl : (xs.take k).length = k := by rw [List.length_take]; omega
  by_cases h0 : k = 0
  · subst h0
    exact ⟨[], Ty.row_nil _ _ _ _ _ h2, by simp⟩
  · rcases h3 with ⟨rfl, rfl⟩ | ⟨hne, b, off, rfl, rfl, hc⟩
    · simp at hk; omega
    · refine ⟨[b], ?_, fun _ h => h⟩
      have := row_int_mk (wr := wr) (w := w) (b := b) (off := off) (cap := cap) (xs := xs.take k) (fun x hx => hI x (List.mem_of_mem_take hx)) (by omega) h2 (by intro e; rw [e] at hl; simp at hl; omega) (fun j hj => by
        rw [List.getElem_take]
        exact hc j (by omega))
      rw [hl] at this
      exact this
/-- The rest of a row, as a source. -/
theorem row_int_from {wr : Bool} {w : World} {a : Option Addr} {n cap : Nat} {xs : List Int} {F : List Nat} {k : Nat} (h : Ty.int.row wr w (.slice a n cap) xs F) (hk : k ≤ xs.length) :
    Src w (cutA a cap k 1) (xs.length - k) 1 ((xs.drop k).map (.int .i64)) := by
  obtain ⟨A, c, e, hs⟩ := row_src_int h
  obtain ⟨a', cap', e', h1, h2, hI, h3⟩ := row_int h
  simp only [Value.slice.injEq] at e e'
  obtain ⟨rfl, rfl, rfl⟩ := e
  obtain ⟨rfl, _, rfl⟩ := e'
  rcases h3 with ⟨rfl, rfl⟩ | ⟨hne, b, off, rfl, rfl, hc⟩
  · exact .inl ⟨by simp, by simp⟩
  · have := hs.from hk h1
    rw [Nat.mul_one] at this
    rw [List.map_drop]
    exact this

/-- Where a literal goes. -/
def litAt (c : List Int) (l : Int) : Nat := (c.takeWhile (fun x => decide (absV x < absV l))).length
/-- A clause with a literal put in. -/
def putB (c : List Int) (l : Int) : List Int := c.take (litAt c l) ++ l :: c.drop (litAt c l)
theorem litAt_end {c : List Int} {l : Int} {k : Nat} (h : (c.take k).all (fun x => decide (absV x < absV l)) = true) (hk : k ≤ c.length) (he : k = c.length ∨ ∃ h : k < c.length, ¬ absV c[k] < absV l) : litAt c l = k := by
  unfold litAt
  have h1 : c.takeWhile (fun x => decide (absV x < absV l)) = c.take k := by
    conv => lhs; rw [← List.take_append_drop k c]
    rw [List.takeWhile_append_of_pos (by simpa [List.all_eq_true] using h)]
    rcases he with rfl | ⟨hlt, hn⟩
    · simp
    · rw [List.drop_eq_getElem_cons hlt, List.takeWhile_cons, if_neg (by simpa using hn), List.append_nil]
  rw [h1, List.length_take]; omega
theorem put_len (c : List Int) (l : Int) : (putB c l).length = c.length + 1 := by
  unfold putB
  have : litAt c l ≤ c.length := by unfold litAt; exact (List.takeWhile_sublist _).length_le
  simp; omega

set_option maxRecDepth 100000 in
set_option maxHeartbeats 4000000 in
theorem l2Put_any (u : Value) (c : List Int) (l : Int) (F : List Nat) (w : World) (hx : Ty.int.row false w u c F) (hc : c.length ≤ 1000000000) :
    Calls Try.prog 203 #[u, .int .i64 l] w (OwnsPost w (putB c l)) := by
  obtain ⟨i0, hi, hz0, hz1, hz2⟩ := info_parts infoInt
  obtain ⟨ad, cap, rfl, hx1, hx2, hxI, hx3⟩ := row_int hx
  go_enter Try.func203, Try.ntmps203
  go_wp2_with fail
  go_loop [5] (fun i => ∃ k : Nat, k ≤ c.length ∧ i = .int .i64 k ∧ Hid ((c.take k).all (fun x => decide (absV x < absV l)) = true)) (fun i => c.length - (intOf i).toNat)
  case atStart => exact ⟨0, Nat.zero_le _, rfl, by simp [Hid]⟩
  case round =>
    obtain ⟨k, hk, rfl, HR⟩ := hrel
    by_cases hgo : ∃ h : k < c.length, absV c[k] < absV l
    · obtain ⟨hlt, hgo⟩ := hgo
      rcases hx3 with ⟨rfl, rfl⟩ | ⟨hxn, b, off, rfl, rfl, hxc⟩
      · exact absurd hlt (by simp)
      have k0 := (hxc k hlt).1
      have HN : Hid ((c.take (k + 1)).all (fun x => decide (absV x < absV l)) = true) := by
        unfold Hid
        rw [List.take_succ_eq_append_getElem hlt, List.all_append, HR.out]
        simp [hgo]
      have hd : decide (absV c[k] < absV l) = true := by simpa using hgo
      clear HR
      go_wp2_with (go_at_call 196; (with_reducible refine (l2Var_any _ _).mono ?_); rintro e w1 ⟨rfl, rfl⟩)
      go_round
      case rel => exact ⟨k + 1, by omega, by go_num, HN⟩
      case measure => simp [intOf]; omega
    · have hat : Hid (litAt c l = k) := by
        refine litAt_end HR.out hk ?_
        by_cases h : k < c.length
        · exact .inr ⟨h, fun h2 => hgo ⟨h, h2⟩⟩
        · exact .inl (by omega)
      have hto := row_int_take (k := k) (Ty.row_grow hx (bdr (bb w))) hk
      obtain ⟨F', hto, _⟩ := hto
      have hfr := Lib.hid (row_int_from (k := k) hx hk)
      have hP : Hid (putB c l = c.take k ++ l :: c.drop k) := by unfold Hid putB; rw [hat.out]
      have hlk : (c.take k).length = k := by rw [List.length_take]; omega
      replace hto := Lib.hid hto
      have h9 : c.length - k ≤ c.length := by omega
      by_cases hlt : k < c.length
      · rcases hx3 with ⟨rfl, rfl⟩ | ⟨hxn, b, off, rfl, rfl, hxc⟩
        · exact absurd hlt (by simp)
        have k0 := (hxc k hlt).1
        have hd : decide (absV c[k] < absV l) = false := by simpa using fun h2 => hgo ⟨hlt, h2⟩
        clear hgo HR hat
        go_wp2_with (go_at_call 196; (with_reducible refine (l2Var_any _ _).mono ?_); rintro e w1 ⟨rfl, rfl⟩)
        refine wp_region_tail (S := (fun _ => True)) 10 (by kernel_rfl) (by kernel_rfl) ?_ ?_
        · trivial
        intro hS
        (refine walkT_take (i := 0) (v := ?_) rfl (by kernel_rfl) (by decide) (by kernel_rfl) (by kernel_rfl) (fun _ _ _ h => h) (Or.inl ⟨by rfl, ?_⟩) (by assumption) ?_; rotate_left; (focus (intro w hSw; (try dsimp only at hSw); go_simp; (try with_reducible rfl); done)); (try simp only [put_rules]))
        (refine walkT_take (i := 1) (v := ?_) rfl (by kernel_rfl) (by decide) (by kernel_rfl) (by kernel_rfl) (fun _ _ _ h => h) (Or.inl ⟨by rfl, ?_⟩) (by assumption) ?_; rotate_left; (focus (intro w hSw; (try dsimp only at hSw); go_simp; (try with_reducible rfl); done)); (try simp only [put_rules]))
        (refine walkT_take (i := 2) (v := .slice _ k cap) rfl (by kernel_rfl) (by decide) (by kernel_rfl) (by kernel_rfl) (fun _ _ _ h => h) (Or.inl ⟨by rfl, fun _ _ => exec_slice_to rfl rfl rfl Try.underlying30 hi (by omega)⟩) (by assumption) ?_; (try simp only [put_rules]))
        (refine walkT_take (i := 4) (v := ?_) rfl (by kernel_rfl) (by decide) (by kernel_rfl) (by kernel_rfl) (fun _ _ _ h => h) (Or.inl ⟨by rfl, ?_⟩) (by assumption) ?_; rotate_left; (focus (intro w hSw; (try dsimp only at hSw); go_simp; (try with_reducible rfl); done)); (try simp only [put_rules]))
        (refine walkT_take (i := 7) (v := ?_) rfl (by kernel_rfl) (by decide) (by kernel_rfl) (by kernel_rfl) (fun _ _ _ h => h) (Or.inl ⟨by rfl, ?_⟩) (by assumption) ?_; rotate_left; (focus (intro w hSw; (try dsimp only at hSw); go_simp; (try with_reducible rfl); done)); (try simp only [put_rules]))
        (refine walkT_take (i := 8) (v := ?_) rfl (by kernel_rfl) (by decide) (by kernel_rfl) (by kernel_rfl) (fun _ _ _ h => h) (Or.inl ⟨by rfl, ?_⟩) (by assumption) ?_; rotate_left; (focus (intro w hSw; (try dsimp only at hSw); go_simp; (try with_reducible rfl); done)); (try simp only [put_rules]))
        (refine walkT_take (i := 9) (v := .slice (cutA _ cap k 1) (c.length - k) (cap - k)) rfl (by kernel_rfl) (by decide) (by kernel_rfl) (by kernel_rfl) (fun _ _ _ h => h) (Or.inl ⟨by rfl, fun _ _ => exec_slice_from rfl rfl rfl Try.underlying30 hi hz1 (by omega)⟩) (by assumption) ?_; (try simp only [put_rules]))
        (refine walkT_ready (rs := [3, 5]) (by kernel_rfl) (by simp) (by decide) ?_; refine AllT.cons rfl (fun K hK => ?_) (AllT.cons rfl (fun K hK => ?_) AllT.nil))
        · go_simp
          go_at_call 234
          refine (l1Own_any _ (c.take k) F' _ hto.out (by omega)).mono ?_
          rintro e w1 ⟨v1, rfl, ho1, hb1⟩
          rw [hlk] at ho1
          obtain ⟨a1, c1, rfl⟩ := owns_form ho1
          have S1 := Lib.hid ((Sp.start w).drew.own_call hb1 ho1)
          clear ho1
          go_wp2_with fail
          refine hK.out _ _ trivial (fun _ => ?_)
          clear hK
          (try simp only [put_rules])
          (refine walkT_ready (rs := [5]) (by kernel_rfl) (by simp) (by decide) ?_; refine AllT.cons rfl (fun K hK => ?_) AllT.nil)
          go_simp
          refine hK.out _ _ trivial (fun _ => ?_)
          clear hK
          (try simp only [put_rules])
          (refine walkT_ready (rs := [6]) (by kernel_rfl) (by simp) (by decide) ?_; refine AllT.cons rfl (fun K hK => ?_) AllT.nil)
          have S2 := Lib.hid (S1.out.alloc (.cells #[.int .i64 l] 3))
          (refine step_append_src rfl _ _ rfl Try.underlying30 hi hz0 hz1 hz2 rfl (by decide) _ k _ rfl (S2.out.own (i := 0) rfl) (some ⟨w1.heap.size, 0, none⟩) 1 1 [.int .i64 l] rfl (Src.one (by simp [go_sem])) (by simp [Value.oneCell']) (by unfold maxLen; omega) (by omega) ?_; intro v2 w2 hown2 hg2 hat2)
          have S3 := Lib.hid (S2.out.own_push (i := 0) rfl (bb _) hown2 hg2 hat2)
          obtain ⟨a2, c2, rfl⟩ := owns_form hown2
          clear hown2 hg2 hat2 S2 S1
          refine hK.out _ _ trivial (fun _ => ?_)
          clear hK
          (try simp only [put_rules])
          (refine walkT_done (by kernel_rfl) ?_)
          simp only [List.drop_succ_cons, List.drop_zero]
          have hfr2 := hfr.out.grow S3.out.below
          (refine wpList_append_src rfl _ _ rfl Try.underlying30 hi hz0 hz1 hz2 rfl (by decide) _ (k + 1) _ rfl (S3.out.own (i := 0) rfl) _ (c.length - k) _ _ rfl hfr2 (ints_one _) (by unfold maxLen; omega) (by omega) ?_; intro v5 w5 hown5 hg5 hat5)
          have S5 := S3.out.own_push (i := 0) rfl (bb _) hown5 hg5 hat5
          have ho5 := S5.owns_end (i := 0) rfl
          have hB5 := S5.below
          obtain ⟨a5, c5, rfl⟩ := owns_form ho5
          have hf : OwnsPost w (putB c l) (.returned (.slice a5 (k + 1 + (c.length - k)) c5)) w5 := by
            refine ⟨_, rfl, ?_, hB5⟩
            rw [hP.out]
            have e : (c.take k ++ l :: c.drop k).length = k + 1 + (c.length - k) := by rw [List.length_append, List.length_cons, List.length_drop, hlk]; omega
            rw [e]
            simpa using ho5
          replace hf := Lib.hid hf
          clear S5 ho5 hown5 hg5 hat5 S3 hfr2
          go_wp2_with fail
          go_ret
          exact hf.out
        · go_simp
          have S0 := Lib.hid ((Sp.start w).drew.alloc_box #[.int .i64 l] 3)
          refine hK.out _ _ trivial (fun _ => ?_)
          clear hK
          (try simp only [put_rules])
          (refine walkT_ready (rs := [3]) (by kernel_rfl) (by simp) (by decide) ?_; refine AllT.cons rfl (fun K hK => ?_) AllT.nil)
          go_simp
          go_at_call 234
          refine (l1Own_any _ (c.take k) F' _ (Ty.row_grow hto.out (bal (bb _) _)) (by omega)).mono ?_
          rintro e w1 ⟨v1, rfl, ho1, hb1⟩
          rw [hlk] at ho1
          obtain ⟨a1, c1, rfl⟩ := owns_form ho1
          have S1 := Lib.hid (S0.out.own_call hb1 ho1)
          have k9 : w1.cell? ⟨w.heap.size, 0, none⟩ = some (.int .i64 l) := S1.out.cell (i := 1) rfl (o := 0) rfl
          clear ho1 S0
          go_wp2_with fail
          refine hK.out _ _ trivial (fun _ => ?_)
          clear hK
          (try simp only [put_rules])
          (refine walkT_ready (rs := [6]) (by kernel_rfl) (by simp) (by decide) ?_; refine AllT.cons rfl (fun K hK => ?_) AllT.nil)
          (refine step_append_src rfl _ _ rfl Try.underlying30 hi hz0 hz1 hz2 rfl (by decide) _ k _ rfl (S1.out.own (i := 0) rfl) (some ⟨w.heap.size, 0, none⟩) 1 1 [.int .i64 l] rfl (Src.one k9) (by simp [Value.oneCell']) (by unfold maxLen; omega) (by omega) ?_; intro v2 w2 hown2 hg2 hat2)
          have S3 := Lib.hid (S1.out.own_push (i := 0) rfl (bb _) hown2 hg2 hat2)
          obtain ⟨a2, c2, rfl⟩ := owns_form hown2
          clear hown2 hg2 hat2 S1 k9
          refine hK.out _ _ trivial (fun _ => ?_)
          clear hK
          (try simp only [put_rules])
          (refine walkT_done (by kernel_rfl) ?_)
          simp only [List.drop_succ_cons, List.drop_zero]
          have hfr2 := hfr.out.grow S3.out.below
          (refine wpList_append_src rfl _ _ rfl Try.underlying30 hi hz0 hz1 hz2 rfl (by decide) _ (k + 1) _ rfl (S3.out.own (i := 0) rfl) _ (c.length - k) _ _ rfl hfr2 (ints_one _) (by unfold maxLen; omega) (by omega) ?_; intro v5 w5 hown5 hg5 hat5)
          have S5 := S3.out.own_push (i := 0) rfl (bb _) hown5 hg5 hat5
          have ho5 := S5.owns_end (i := 0) rfl
          have hB5 := S5.below
          obtain ⟨a5, c5, rfl⟩ := owns_form ho5
          have hf : OwnsPost w (putB c l) (.returned (.slice a5 (k + 1 + (c.length - k)) c5)) w5 := by
            refine ⟨_, rfl, ?_, hB5⟩
            rw [hP.out]
            have e : (c.take k ++ l :: c.drop k).length = k + 1 + (c.length - k) := by rw [List.length_append, List.length_cons, List.length_drop, hlk]; omega
            rw [e]
            simpa using ho5
          replace hf := Lib.hid hf
          clear S5 ho5 hown5 hg5 hat5 S3 hfr2
          go_wp2_with fail
          go_ret
          exact hf.out
      · clear hgo HR hat
        go_wp2_with fail
        refine wp_region_tail (S := (fun _ => True)) 10 (by kernel_rfl) (by kernel_rfl) ?_ ?_
        · trivial
        intro hS
        (refine walkT_take (i := 0) (v := ?_) rfl (by kernel_rfl) (by decide) (by kernel_rfl) (by kernel_rfl) (fun _ _ _ h => h) (Or.inl ⟨by rfl, ?_⟩) (by assumption) ?_; rotate_left; (focus (intro w hSw; (try dsimp only at hSw); go_simp; (try with_reducible rfl); done)); (try simp only [put_rules]))
        (refine walkT_take (i := 1) (v := ?_) rfl (by kernel_rfl) (by decide) (by kernel_rfl) (by kernel_rfl) (fun _ _ _ h => h) (Or.inl ⟨by rfl, ?_⟩) (by assumption) ?_; rotate_left; (focus (intro w hSw; (try dsimp only at hSw); go_simp; (try with_reducible rfl); done)); (try simp only [put_rules]))
        (refine walkT_take (i := 2) (v := .slice _ k cap) rfl (by kernel_rfl) (by decide) (by kernel_rfl) (by kernel_rfl) (fun _ _ _ h => h) (Or.inl ⟨by rfl, fun _ _ => exec_slice_to rfl rfl rfl Try.underlying30 hi (by omega)⟩) (by assumption) ?_; (try simp only [put_rules]))
        (refine walkT_take (i := 4) (v := ?_) rfl (by kernel_rfl) (by decide) (by kernel_rfl) (by kernel_rfl) (fun _ _ _ h => h) (Or.inl ⟨by rfl, ?_⟩) (by assumption) ?_; rotate_left; (focus (intro w hSw; (try dsimp only at hSw); go_simp; (try with_reducible rfl); done)); (try simp only [put_rules]))
        (refine walkT_take (i := 7) (v := ?_) rfl (by kernel_rfl) (by decide) (by kernel_rfl) (by kernel_rfl) (fun _ _ _ h => h) (Or.inl ⟨by rfl, ?_⟩) (by assumption) ?_; rotate_left; (focus (intro w hSw; (try dsimp only at hSw); go_simp; (try with_reducible rfl); done)); (try simp only [put_rules]))
        (refine walkT_take (i := 8) (v := ?_) rfl (by kernel_rfl) (by decide) (by kernel_rfl) (by kernel_rfl) (fun _ _ _ h => h) (Or.inl ⟨by rfl, ?_⟩) (by assumption) ?_; rotate_left; (focus (intro w hSw; (try dsimp only at hSw); go_simp; (try with_reducible rfl); done)); (try simp only [put_rules]))
        (refine walkT_take (i := 9) (v := .slice (cutA _ cap k 1) (c.length - k) (cap - k)) rfl (by kernel_rfl) (by decide) (by kernel_rfl) (by kernel_rfl) (fun _ _ _ h => h) (Or.inl ⟨by rfl, fun _ _ => exec_slice_from rfl rfl rfl Try.underlying30 hi hz1 (by omega)⟩) (by assumption) ?_; (try simp only [put_rules]))
        (refine walkT_ready (rs := [3, 5]) (by kernel_rfl) (by simp) (by decide) ?_; refine AllT.cons rfl (fun K hK => ?_) (AllT.cons rfl (fun K hK => ?_) AllT.nil))
        · go_simp
          go_at_call 234
          refine (l1Own_any _ (c.take k) F' _ hto.out (by omega)).mono ?_
          rintro e w1 ⟨v1, rfl, ho1, hb1⟩
          rw [hlk] at ho1
          obtain ⟨a1, c1, rfl⟩ := owns_form ho1
          have S1 := Lib.hid ((Sp.start w).drew.own_call hb1 ho1)
          clear ho1
          go_wp2_with fail
          refine hK.out _ _ trivial (fun _ => ?_)
          clear hK
          (try simp only [put_rules])
          (refine walkT_ready (rs := [5]) (by kernel_rfl) (by simp) (by decide) ?_; refine AllT.cons rfl (fun K hK => ?_) AllT.nil)
          go_simp
          refine hK.out _ _ trivial (fun _ => ?_)
          clear hK
          (try simp only [put_rules])
          (refine walkT_ready (rs := [6]) (by kernel_rfl) (by simp) (by decide) ?_; refine AllT.cons rfl (fun K hK => ?_) AllT.nil)
          have S2 := Lib.hid (S1.out.alloc (.cells #[.int .i64 l] 3))
          (refine step_append_src rfl _ _ rfl Try.underlying30 hi hz0 hz1 hz2 rfl (by decide) _ k _ rfl (S2.out.own (i := 0) rfl) (some ⟨w1.heap.size, 0, none⟩) 1 1 [.int .i64 l] rfl (Src.one (by simp [go_sem])) (by simp [Value.oneCell']) (by unfold maxLen; omega) (by omega) ?_; intro v2 w2 hown2 hg2 hat2)
          have S3 := Lib.hid (S2.out.own_push (i := 0) rfl (bb _) hown2 hg2 hat2)
          obtain ⟨a2, c2, rfl⟩ := owns_form hown2
          clear hown2 hg2 hat2 S2 S1
          refine hK.out _ _ trivial (fun _ => ?_)
          clear hK
          (try simp only [put_rules])
          (refine walkT_done (by kernel_rfl) ?_)
          simp only [List.drop_succ_cons, List.drop_zero]
          have hfr2 := hfr.out.grow S3.out.below
          (refine wpList_append_src rfl _ _ rfl Try.underlying30 hi hz0 hz1 hz2 rfl (by decide) _ (k + 1) _ rfl (S3.out.own (i := 0) rfl) _ (c.length - k) _ _ rfl hfr2 (ints_one _) (by unfold maxLen; omega) (by omega) ?_; intro v5 w5 hown5 hg5 hat5)
          have S5 := S3.out.own_push (i := 0) rfl (bb _) hown5 hg5 hat5
          have ho5 := S5.owns_end (i := 0) rfl
          have hB5 := S5.below
          obtain ⟨a5, c5, rfl⟩ := owns_form ho5
          have hf : OwnsPost w (putB c l) (.returned (.slice a5 (k + 1 + (c.length - k)) c5)) w5 := by
            refine ⟨_, rfl, ?_, hB5⟩
            rw [hP.out]
            have e : (c.take k ++ l :: c.drop k).length = k + 1 + (c.length - k) := by rw [List.length_append, List.length_cons, List.length_drop, hlk]; omega
            rw [e]
            simpa using ho5
          replace hf := Lib.hid hf
          clear S5 ho5 hown5 hg5 hat5 S3 hfr2
          go_wp2_with fail
          go_ret
          exact hf.out
        · go_simp
          have S0 := Lib.hid ((Sp.start w).drew.alloc_box #[.int .i64 l] 3)
          refine hK.out _ _ trivial (fun _ => ?_)
          clear hK
          (try simp only [put_rules])
          (refine walkT_ready (rs := [3]) (by kernel_rfl) (by simp) (by decide) ?_; refine AllT.cons rfl (fun K hK => ?_) AllT.nil)
          go_simp
          go_at_call 234
          refine (l1Own_any _ (c.take k) F' _ (Ty.row_grow hto.out (bal (bb _) _)) (by omega)).mono ?_
          rintro e w1 ⟨v1, rfl, ho1, hb1⟩
          rw [hlk] at ho1
          obtain ⟨a1, c1, rfl⟩ := owns_form ho1
          have S1 := Lib.hid (S0.out.own_call hb1 ho1)
          have k9 : w1.cell? ⟨w.heap.size, 0, none⟩ = some (.int .i64 l) := S1.out.cell (i := 1) rfl (o := 0) rfl
          clear ho1 S0
          go_wp2_with fail
          refine hK.out _ _ trivial (fun _ => ?_)
          clear hK
          (try simp only [put_rules])
          (refine walkT_ready (rs := [6]) (by kernel_rfl) (by simp) (by decide) ?_; refine AllT.cons rfl (fun K hK => ?_) AllT.nil)
          (refine step_append_src rfl _ _ rfl Try.underlying30 hi hz0 hz1 hz2 rfl (by decide) _ k _ rfl (S1.out.own (i := 0) rfl) (some ⟨w.heap.size, 0, none⟩) 1 1 [.int .i64 l] rfl (Src.one k9) (by simp [Value.oneCell']) (by unfold maxLen; omega) (by omega) ?_; intro v2 w2 hown2 hg2 hat2)
          have S3 := Lib.hid (S1.out.own_push (i := 0) rfl (bb _) hown2 hg2 hat2)
          obtain ⟨a2, c2, rfl⟩ := owns_form hown2
          clear hown2 hg2 hat2 S1 k9
          refine hK.out _ _ trivial (fun _ => ?_)
          clear hK
          (try simp only [put_rules])
          (refine walkT_done (by kernel_rfl) ?_)
          simp only [List.drop_succ_cons, List.drop_zero]
          have hfr2 := hfr.out.grow S3.out.below
          (refine wpList_append_src rfl _ _ rfl Try.underlying30 hi hz0 hz1 hz2 rfl (by decide) _ (k + 1) _ rfl (S3.out.own (i := 0) rfl) _ (c.length - k) _ _ rfl hfr2 (ints_one _) (by unfold maxLen; omega) (by omega) ?_; intro v5 w5 hown5 hg5 hat5)
          have S5 := S3.out.own_push (i := 0) rfl (bb _) hown5 hg5 hat5
          have ho5 := S5.owns_end (i := 0) rfl
          have hB5 := S5.below
          obtain ⟨a5, c5, rfl⟩ := owns_form ho5
          have hf : OwnsPost w (putB c l) (.returned (.slice a5 (k + 1 + (c.length - k)) c5)) w5 := by
            refine ⟨_, rfl, ?_, hB5⟩
            rw [hP.out]
            have e : (c.take k ++ l :: c.drop k).length = k + 1 + (c.length - k) := by rw [List.length_append, List.length_cons, List.length_drop, hlk]; omega
            rw [e]
            simpa using ho5
          replace hf := Lib.hid hf
          clear S5 ho5 hown5 hg5 hat5 S3 hfr2
          go_wp2_with fail
          go_ret
          exact hf.out
end Go.Proofs.Ytmikconjhmhekaa
