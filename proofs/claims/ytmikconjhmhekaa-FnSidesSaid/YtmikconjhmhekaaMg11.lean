/- Lemmas and contracts for a law, put together out of several texts: CoL CoP CoQ CoR CoM CoS CoT. -/
import Derived.Test.YtmikconjhmhekaaMg10
import Derived.Deep.DeepCutAuto
import Derived.Laws.EntriesVeiled
/- Contract: the first core of a size, in the reference. Printed by gen_col.py. -/
namespace Go.Proofs.Ytmikconjhmhekaa
open Go.RowKit

/-- What is told of a search. -/
def ChP (w : World) (r : Option (List Nat)) (e : Ending) (w' : World) : Prop := ∃ (B : Option Addr) (c : Nat) (out : List Int), e = .returned (.tuple #[.slice B out.length c, .bool r.isSome]) ∧ (∀ is, r = some is → out = ofN is) ∧ (∀ x ∈ out, I64 x) ∧
  Sp w w' [Own 3 1 (.slice B out.length c) out.length (out.map (.int .i64))]
/-- Where a list goes on. -/
def nextA (l : List Nat) : Nat := match l.getLast? with
  | none => 0
  | some x => x + 1
theorem nextA_snoc (l : List Nat) (i : Nat) : nextA (l ++ [i]) = i + 1 := by simp [nextA]
theorem nextA_nil : nextA [] = 0 := rfl
theorem drew_size2 (w : World) : w.drew.heap.size = w.heap.size := rfl
theorem nextA_at {l : List Nat} (h : 0 < l.length) : nextA l = l[l.length - 1] + 1 := by
  unfold nextA
  rw [List.getLast?_eq_getElem?, List.getElem?_eq_getElem (by omega)]
theorem asc_snoc {m i : Nat} {l : List Nat} (h : AscN m l) (hi : nextA l ≤ i) (him : i < m) : AscN m (l ++ [i]) := by
  refine ⟨List.pairwise_append.2 ⟨h.1, by simp, fun x hx y hy => ?_⟩, fun x hx => ?_⟩
  · obtain rfl : y = i := by simpa using hy
    have hlen : 0 < l.length := List.length_pos_of_mem hx
    have hn := nextA_at hlen
    obtain ⟨j, hj, rfl⟩ := List.getElem_of_mem hx
    have hle : l[j] ≤ l[l.length - 1] := by
      rcases Nat.lt_or_ge j (l.length - 1) with hlt | hge
      · exact Nat.le_of_lt (List.pairwise_iff_getElem.1 h.1 j (l.length - 1) hj (by omega) hlt)
      · have : j = l.length - 1 := by omega
        simp only [this]; exact Nat.le_refl _
    omega
  · rcases List.mem_append.1 hx with hx | hx
    · exact h.2 x hx
    · obtain rfl : x = i := by simpa using hx
      exact him
theorem own_snoc_ints {w0 W : World} {ps : List Asn} {j : Nat} {A : Option Addr} {c i m : Nat} {l : List Nat} {bl : Nat} (hbl : l.length = bl) (hm : m ≤ 1000000) (h : Sp w0 W ps) (hi : ps[j]? = some (Own 3 1 (.slice A (bl + 1) c) (bl + 1) ((ofN l).map (.int .i64) ++ [.int .i64 (i : Int)]))) (ha : AscN m (l ++ [i])) : IntsAt W A (ofN (l ++ [i])) := by
  subst hbl
  have ho := h.own hi
  have e1 : (ofN l).map (Value.int .i64) ++ [.int .i64 (i : Int)] = (ofN (l ++ [i])).map (.int .i64) := by unfold ofN; simp
  have e2 : l.length + 1 = (ofN (l ++ [i])).length := by rw [ofN_len]; simp
  rw [e1, e2] at ho
  obtain ⟨A', c', e3, hT⟩ := ints_own ho (ofN_ok hm ha)
  simp only [Value.slice.injEq] at e3
  obtain ⟨rfl, -, rfl⟩ := e3
  exact hT

set_option maxRecDepth 100000 in
set_option maxHeartbeats 16000000 in
theorem l5Choose_any (n : Nat) (hn : n ≤ 12) (xss : List (List Int)) (hc : ∀ c ∈ xss, ClS c) (hm : xss.length ≤ 60) (A : Option Addr) (cap : Nat) : ∀ (k : Nat), k ≤ 1000 → ∀ (begun : List Nat) (D : Option Addr) (dc : Nat) (w : World), AscN xss.length begun → ClsAt w A xss → IntsAt w D (ofN begun) →
    Calls Try.prog 118 #[.agg #[.int .i64 n, .slice A xss.length cap], .slice D begun.length dc, .int .i64 k] w (ChP w (chF (coreB n xss) xss.length k begun (nextA begun))) := by
  obtain ⟨i0, hi, hz0, hz1, hz2⟩ := info_parts infoInt
  intro k
  induction k with
  | zero =>
    intro _ begun D dc w has hI hT
    have S0 := (Sp.start w).alloc_box #[.int .i64 n, .slice A xss.length cap] 26
    have hbl := asc_len has
    have hcc := Lib.hid (fun W (h : Below w.heap.size w W) => l5Core_any n hn xss hc begun has.2 (by omega) A D cap dc W (hI.grow h) (hT.grow h))
    have hsr := Lib.hid (ints_src hT (ofN_len begun))
    have h1c := Lib.hid (ints_one_cell (xs := ofN begun))
    have hoI := Lib.hid (ofN_ok (by omega) has)
    have hol := Lib.hid (ofN_len begun)
    rw [chF_zero, show (((0 : Nat)) : Int) = 0 from rfl]
    obtain ⟨q, hq⟩ : ∃ q, coreB n xss begun = q := ⟨_, rfl⟩
    rw [hq] at hcc ⊢
    have hfo : Hid (∀ is, (if q = true then some begun else none) = some is → ofN begun = ofN is) := fun is h => by
      cases q with
      | false => cases h
      | true => cases h; rfl
    have hqs : Hid ((if q = true then some begun else none).isSome = q) := by cases q <;> rfl
    generalize (if q = true then some begun else none) = R at *
    have c0 := S0.cell (i := 0) rfl (o := 0) rfl
    have c1 := S0.cell (i := 0) rfl (o := 1) rfl
    have S1 := Lib.hid S0.drew
    clear S0 hI hT hq has
    go_enter Try.func118, Try.ntmps118
    go_wp2_with fail
    refine wp_region_held_lit (S := (fun w' => w'.cell? ⟨w.heap.size, 0, none⟩ = some (.int .i64 n) ∧ w'.cell? ⟨w.heap.size, 1, none⟩ = some (.slice A xss.length cap))) 8 [false, false, false, false, false, false, false, false] (by kernel_rfl) (by kernel_rfl) (by kernel_rfl) ?_ ?_
    · exact ⟨c0, c1⟩
    intro hSc
    (refine wpAnyH_take (i := 1) (v := ?_) rfl (by kernel_rfl) (by kernel_rfl) (by kernel_rfl) (fun _ _ _ h => h) (Or.inl ⟨by rfl, ?_⟩) (by assumption) ?_; rotate_left; (focus (intro w hSw; (try dsimp only at hSw); go_simp; (try with_reducible rfl); done)); (try simp only [put_rules]))
    (refine wpAnyH_take (i := 3) (v := ?_) rfl (by kernel_rfl) (by kernel_rfl) (by kernel_rfl) (fun _ _ _ h => h) (Or.inl ⟨by rfl, ?_⟩) (by assumption) ?_; rotate_left; (focus (intro w hSw; (try dsimp only at hSw); go_simp; (try with_reducible rfl); done)); (try simp only [put_rules]))
    (refine wpAnyH_take (i := 4) (v := ?_) rfl (by kernel_rfl) (by kernel_rfl) (by kernel_rfl) (fun _ _ _ h => h) (Or.inl ⟨by rfl, ?_⟩) (by assumption) ?_; rotate_left; (focus (intro w hSw; (try dsimp only at hSw); go_simp; (try with_reducible rfl); done)); (try simp only [put_rules]))
    (refine wpAnyH_ready (rs := [0]) (by kernel_rfl) (by simp) ?_; refine AllReadyH.cons rfl (fun K hK => ?_) AllReadyH.nil)
    go_simp
    have S2 := S1.out.own_made 3 1
    (try simp only [World.size_alloc, drew_size2] at S2)
    replace S2 := Lib.hid S2
    clear S1 c0 c1
    refine hK.out _ _ ⟨S2.out.cell (i := 1) rfl (o := 0) rfl, S2.out.cell (i := 1) rfl (o := 1) rfl⟩ (fun hS2 => ?_)
    clear hK hSc
    (try simp only [put_rules])
    (refine wpAnyH_ready (rs := [2]) (by kernel_rfl) (by simp) ?_; refine AllReadyH.cons rfl (fun K hK => ?_) AllReadyH.nil)
    (refine step_append_src rfl _ _ rfl Try.underlying30 hi hz0 hz1 hz2 rfl (by decide) _ 0 _ rfl (S2.out.own (i := 0) rfl) D begun.length dc _ rfl (hsr.out.grow S2.out.below) h1c.out (by unfold maxLen; omega) (by omega) ?_; intro vA wA hownA hgA hatA)
    have S3 := S2.out.own_push (i := 0) rfl (bb _) hownA hgA hatA
    obtain ⟨aA, cA, rfl⟩ := owns_form hownA
    rw [Nat.zero_add, List.nil_append] at S3
    clear hownA hgA hatA
    simp only [Nat.zero_add]
    replace S3 := Lib.hid S3
    clear S2
    refine hK.out _ _ ⟨S3.out.cell (i := 1) rfl (o := 0) rfl, S3.out.cell (i := 1) rfl (o := 1) rfl⟩ (fun hS3 => ?_)
    clear hK hS2
    (try simp only [put_rules])
    (refine wpAnyH_ready (rs := [5]) (by kernel_rfl) (by simp) ?_; refine AllReadyH.cons rfl (fun K hK => ?_) AllReadyH.nil)
    go_simp
    go_at_call 116
    refine (hcc.out _ S3.out.below).mono ?_
    rintro e w5 ⟨rfl, hb5⟩
    have S4 := Lib.hid (S3.out.grow hb5)
    clear hcc S3 hb5
    go_wp2_with fail
    refine hK.out _ _ ⟨S4.out.cell (i := 1) rfl (o := 0) rfl, S4.out.cell (i := 1) rfl (o := 1) rfl⟩ (fun hS4 => ?_)
    clear hK hS3
    (try simp only [put_rules])
    (refine wpAnyH_take (i := 6) (v := ?_) rfl (by kernel_rfl) (by kernel_rfl) (by kernel_rfl) (fun _ _ _ h => h) (Or.inl ⟨by rfl, ?_⟩) (by assumption) ?_; rotate_left; (focus (intro w hSw; (try dsimp only at hSw); go_simp; (try with_reducible rfl); done)); (try simp only [put_rules]))
    (refine wpAnyH_take (i := 7) (v := ?_) rfl (by kernel_rfl) (by kernel_rfl) (by kernel_rfl) (fun _ _ _ h => h) (Or.inl ⟨by rfl, ?_⟩) (by assumption) ?_; rotate_left; (focus (intro w hSw; (try dsimp only at hSw); go_simp; (try with_reducible rfl); done)); (try simp only [put_rules]))
    (refine wpAnyH_done (by kernel_rfl) ?_ _)
    have S5 := Sp.pick [0] S4.out rfl
    rw [← hol.out] at S5
    replace S5 := Lib.hid S5
    clear S4 hS4
    go_wp2_with fail
    go_ret2
    exact ⟨aA, cA, ofN begun, by first | (rw [hol.out, hqs.out]; done) | (rw [hol.out, hqs.out]; rfl), hfo.out, hoI.out, S5.out⟩
  | succ k ih =>
    intro hk begun D dc w has hI hT
    have S0 := (Sp.start w).alloc_box #[.int .i64 n, .slice A xss.length cap] 26
    have hbl := asc_len has
    obtain ⟨P, hP⟩ : ∃ P, coreB n xss = P := ⟨_, rfl⟩
    simp only [hP] at ih ⊢
    have hih := Lib.hid (fun (i : Nat) (hi : nextA begun ≤ i) (him : i < xss.length) E ec W (h : Below w.heap.size w W) (hE : IntsAt W E (ofN (begun ++ [i]))) => ih (by omega) (begun ++ [i]) E ec W (asc_snoc has hi him) (hI.grow h) hE)
    simp only [nextA_snoc, show ∀ i : Nat, (begun ++ [i]).length = begun.length + 1 by simp] at hih
    have hasn := Lib.hid (fun (i : Nat) (hi : nextA begun ≤ i) (him : i < xss.length) => asc_snoc has hi him)
    have hsr := Lib.hid (ints_src hT (ofN_len begun))
    have h1c := Lib.hid (ints_one_cell (xs := ofN begun))
    have hDI := Lib.hid hT
    have hol := Lib.hid (ofN_len begun)
    have hna := Lib.hid (fun (h : 0 < begun.length) => nextA_at h)
    have hnb : Hid (begun.length = 0 → nextA begun = 0) := fun h => by rw [List.length_eq_zero_iff.1 h]; rfl
    have hne : nextA begun ≤ xss.length := by
      rcases Nat.eq_zero_or_pos begun.length with h | h
      · rw [hnb.out h]; omega
      · rw [hna.out h]
        exact has.2 _ (List.getElem_mem _)
    have c0 := S0.cell (i := 0) rfl (o := 0) rfl
    have c1 := S0.cell (i := 0) rfl (o := 1) rfl
    have hto0 : Hid (chTo P xss.length k begun (nextA begun) (nextA begun) = none) := by unfold Hid chTo; rw [Nat.sub_self]; rfl
    have hnx := Lib.hid (fun i (hi : nextA begun ≤ i) h h2 => chTo_next (P := P) (m := xss.length) (k := k) (begun := begun) hi h h2)
    have hfd := Lib.hid (fun i r (hi : nextA begun ≤ i) (him : i < xss.length) h h2 => chTo_found (P := P) (m := xss.length) (k := k) (begun := begun) (r := r) hi him h h2)
    have hal := Lib.hid (fun h => chTo_all (P := P) (m := xss.length) (k := k) (begun := begun) (a := nextA begun) h)
    have hw1 : IntKind.i64.wrap (((k + 1 : Nat) : Int) - 1) = (k : Int) := by rw [IntWalk.i64_in _ (by omega)]; omega
    have hk0 : ((((k + 1 : Nat) : Int)) == 0) = false := beq_eq_false_iff_ne.2 (by omega)
    have hk1 : decide (((k + 1 : Nat) : Int) = 0) = false := decide_eq_false (by omega)
    have hk2 : 1 ≤ ((k + 1 : Nat) : Int) := by omega
    obtain ⟨m, hme⟩ : ∃ m, xss.length = m := ⟨_, rfl⟩
    rw [hme] at S0 c0 c1 hih hasn hto0 hnx hfd hal hne hbl hm ⊢
    obtain ⟨R, hR⟩ : ∃ R, chF P m (k + 1) begun (nextA begun) = R := ⟨_, rfl⟩
    rw [hR] at hfd hal ⊢
    replace S0 := Lib.hid S0
    obtain ⟨a, ha⟩ : ∃ a, nextA begun = a := ⟨_, rfl⟩
    rw [ha] at hih hasn hto0 hnx hfd hal hne hna hnb
    obtain ⟨kz, hkz⟩ : ∃ z : Int, ((k + 1 : Nat) : Int) = z := ⟨_, rfl⟩
    rw [hkz] at hw1 hk0 hk1 hk2 ⊢
    obtain ⟨bl, hbl2⟩ : ∃ bl, begun.length = bl := ⟨_, rfl⟩
    rw [hbl2] at hsr hbl ⊢
    simp only [hbl2] at hih
    replace hbl2 := Lib.hid hbl2
    clear hI hT has ih hP hR ha hme hkz
    go_enter Try.func118, Try.ntmps118
    go_upto_if 22 with fail
    go_cut [8] (fun s wx => s = .int .i64 a ∧ Hid (Sp w wx [Box w.heap.size 26 #[.int .i64 n, .slice A m cap]]))
    case first =>
      by_cases hb0 : 0 < bl
      · have hbq := hbl2.out
        have hat := hna.out (by rw [hbq]; exact hb0)
        obtain ⟨db, doff, rfl, m0⟩ := (hDI.out.grow S0.out.below).at_ (begun.length - 1) (by rw [hol.out]; omega)
        have hval : (ofN begun)[begun.length - 1]'(by rw [hol.out]; omega) = (begun[begun.length - 1]'(by omega) : Int) := ofN_get (by omega)
        rw [hval] at m0
        simp only [hbq] at m0 hat
        generalize begun[bl - 1]'(by omega) = y at *
        have hb1 : decide ((0 : Int) < (bl : Int)) = true := decide_eq_true (by omega)
        have hwb : IntKind.i64.wrap ((bl : Int) - 1) = ((bl - 1 : Nat) : Int) := by rw [IntWalk.i64_in _ (by omega)]; omega
        have hy1 : IntKind.i64.wrap ((y : Int) + 1) = (a : Int) := by rw [IntWalk.i64_in _ (by omega)]; omega
        clear hval hat hbq
        go_wp2_with fail
        go_meet
        exact ⟨rfl, S0⟩
      · have ha0 : a = 0 := hnb.out (by have := hbl2.out; omega)
        have hb1 : decide ((0 : Int) < (bl : Int)) = false := decide_eq_false (by omega)
        go_wp2_with fail
        go_meet
        exact ⟨by rw [ha0]; rfl, S0⟩
    case rest =>
    clear S0 c0 c1 hna hnb
    obtain ⟨rfl, S1⟩ := hcut
    go_wp2_with fail
    go_loopw [9, 10, 11] (fun vi _ _ wr => ∃ i : Nat, a ≤ i ∧ i ≤ m ∧ vi = .int .i64 i ∧ Hid (chTo P m k begun a i = none) ∧ Hid (Sp w wr [Box w.heap.size 26 #[.int .i64 n, .slice A m cap]])) (fun vi _ _ _ => m - (intOf vi).toNat)
    case atStart => exact ⟨a, Nat.le_refl _, hne, rfl, hto0, S1⟩
    case round =>
      obtain ⟨i, hai, him, rfl, hto, HS⟩ := hrel
      clear S1 hto0
      have c0 := HS.out.cell (i := 0) rfl (o := 0) rfl
      have c1 := HS.out.cell (i := 0) rfl (o := 1) rfl
      by_cases hlt : i < m
      · have hcall := Lib.hid (hih.out i hai hlt)
        have has2 := Lib.hid (hasn.out i hai hlt)
        have hnx2 := Lib.hid (fun h2 => hnx.out i hai hto.out h2)
        have hfd2 := Lib.hid (fun r h2 => hfd.out i r hai hlt hto.out h2)
        obtain ⟨R2, hR2⟩ : ∃ R2, chF P m k (begun ++ [i]) (i + 1) = R2 := ⟨_, rfl⟩
        simp only [hR2] at hcall hnx2 hfd2
        clear hR2
        go_upto_region 9 with fail
        go_cut [10, 11] (fun v10 v11 wx => ∃ (B : Option Addr) (c : Nat) (out : List Int), v10 = .slice B out.length c ∧ v11 = .bool R2.isSome ∧ Hid (∀ is, R2 = some is → out = ofN is) ∧ Hid (∀ x ∈ out, I64 x) ∧ Hid (Sp w wx [Own 3 1 (.slice B out.length c) out.length (out.map (.int .i64)), Box w.heap.size 26 #[.int .i64 n, .slice A m cap]]))
        case first =>
          as_aux_lemma =>
            refine wp_region_held_lit (S := (fun w' => w'.cell? ⟨w.heap.size, 0, none⟩ = some (.int .i64 n) ∧ w'.cell? ⟨w.heap.size, 1, none⟩ = some (.slice A m cap))) 15 [false, false, false, false, false, false, false, false, false, false, false, false, false, false, false] (by kernel_rfl) (by kernel_rfl) (by kernel_rfl) ?_ ?_
            · exact ⟨HS.out.cell (i := 0) rfl (o := 0) rfl, HS.out.cell (i := 0) rfl (o := 1) rfl⟩
            intro hS0
            (refine wpAnyH_take (i := 0) (v := ?_) rfl (by kernel_rfl) (by kernel_rfl) (by kernel_rfl) (fun _ _ _ h => h) (Or.inl ⟨by rfl, ?_⟩) (by assumption) ?_; rotate_left; (focus (intro w hSw; (try dsimp only at hSw); go_simp; (try with_reducible rfl); done)); (try simp only [put_rules]))
            (refine wpAnyH_take (i := 2) (v := ?_) rfl (by kernel_rfl) (by kernel_rfl) (by kernel_rfl) (fun _ _ _ h => h) (Or.inl ⟨by rfl, ?_⟩) (by assumption) ?_; rotate_left; (focus (intro w hSw; (try dsimp only at hSw); go_simp; (try with_reducible rfl); done)); (try simp only [put_rules]))
            (refine wpAnyH_take (i := 4) (v := ?_) rfl (by kernel_rfl) (by kernel_rfl) (by kernel_rfl) (fun _ _ _ h => h) (Or.inl ⟨by rfl, ?_⟩) (by assumption) ?_; rotate_left; (focus (intro w hSw; (try dsimp only at hSw); go_simp; (try with_reducible rfl); done)); (try simp only [put_rules]))
            (refine wpAnyH_take (i := 7) (v := ?_) rfl (by kernel_rfl) (by kernel_rfl) (by kernel_rfl) (fun _ _ _ h => h) (Or.inl ⟨by rfl, ?_⟩) (by assumption) ?_; rotate_left; (focus (intro w hSw; (try dsimp only at hSw); go_simp; (try with_reducible rfl); done)); (try simp only [put_rules]))
            (refine wpAnyH_take (i := 8) (v := ?_) rfl (by kernel_rfl) (by kernel_rfl) (by kernel_rfl) (fun _ _ _ h => h) (Or.inl ⟨by rfl, ?_⟩) (by assumption) ?_; rotate_left; (focus (intro w hSw; (try dsimp only at hSw); go_simp; (try with_reducible rfl); done)); (try simp only [put_rules]))
            have Sd0 := Lib.hid HS.out.drew
            clear HS
            (refine wpAnyH_ready (rs := [1, 5]) (by kernel_rfl) (by simp) ?_; refine AllReadyH.cons rfl (fun K hK => ?_) (AllReadyH.cons rfl (fun K hK => ?_) AllReadyH.nil))
            · go_simp
              have Sd1 := Sd0.out.own_made 3 1
              (try simp only [World.size_alloc, drew_size2] at Sd1)
              replace Sd1 := Lib.hid Sd1
              clear Sd0
              refine hK.out _ _ ⟨Sd1.out.cell (i := 1) rfl (o := 0) rfl, Sd1.out.cell (i := 1) rfl (o := 1) rfl⟩ (fun hS1 => ?_)
              clear hK
              (try simp only [put_rules])
              (refine wpAnyH_ready (rs := [3, 5]) (by kernel_rfl) (by simp) ?_; refine AllReadyH.cons rfl (fun K hK => ?_) (AllReadyH.cons rfl (fun K hK => ?_) AllReadyH.nil))
              · (refine step_append_src rfl _ _ rfl Try.underlying30 hi hz0 hz1 hz2 rfl (by decide) _ 0 _ rfl (Sd1.out.own (i := 0) rfl) D bl dc _ rfl (hsr.out.grow Sd1.out.below) h1c.out (by unfold maxLen; omega) (by omega) ?_; intro vA wA hownA hgA hatA)
                have Sd2 := Sd1.out.own_push (i := 0) rfl (bb _) hownA hgA hatA
                obtain ⟨aA, cA, rfl⟩ := owns_form hownA
                rw [Nat.zero_add, List.nil_append] at Sd2
                clear hownA hgA hatA
                simp only [Nat.zero_add]
                replace Sd2 := Lib.hid Sd2
                clear Sd1
                refine hK.out _ _ ⟨Sd2.out.cell (i := 1) rfl (o := 0) rfl, Sd2.out.cell (i := 1) rfl (o := 1) rfl⟩ (fun hS2 => ?_)
                clear hK
                (try simp only [put_rules])
                (refine wpAnyH_ready (rs := [5]) (by kernel_rfl) (by simp) ?_; refine AllReadyH.cons rfl (fun K hK => ?_) AllReadyH.nil)
                go_simp
                have Sd3 := Sd2.out.alloc_box #[.int .i64 i] 3
                (try simp only [World.size_alloc, drew_size2] at Sd3)
                replace Sd3 := Lib.hid Sd3
                clear Sd2
                refine hK.out _ _ ⟨Sd3.out.cell (i := 2) rfl (o := 0) rfl, Sd3.out.cell (i := 2) rfl (o := 1) rfl⟩ (fun hS3 => ?_)
                clear hK
                (try simp only [put_rules])
                (refine wpAnyH_ready (rs := [6]) (by kernel_rfl) (by simp) ?_; refine AllReadyH.cons rfl (fun K hK => ?_) AllReadyH.nil)
                (refine step_append_src rfl _ _ rfl Try.underlying30 hi hz0 hz1 hz2 rfl (by decide) _ bl _ rfl (Sd3.out.own (i := 1) rfl) _ 1 1 [.int .i64 i] rfl (Src.one (Sd3.out.cell (i := 0) rfl (o := 0) rfl)) (by simp [Value.oneCell']) (by unfold maxLen; omega) (by omega) ?_; intro vB wB hownB hgB hatB)
                have Sd4 := Sd3.out.own_push (i := 1) rfl (bb _) hownB hgB hatB
                obtain ⟨aB, cB, rfl⟩ := owns_form hownB
                clear hownB hgB hatB
                replace Sd4 := Lib.hid Sd4
                clear Sd3
                refine hK.out _ _ ⟨Sd4.out.cell (i := 2) rfl (o := 0) rfl, Sd4.out.cell (i := 2) rfl (o := 1) rfl⟩ (fun hS4 => ?_)
                clear hK
                (try simp only [put_rules])
                (refine wpAnyH_ready (rs := [9]) (by kernel_rfl) (by simp) ?_; refine AllReadyH.cons rfl (fun K hK => ?_) AllReadyH.nil)
                go_simp
                go_at_call 118
                refine (hcall.out aB cB _ Sd4.out.below (own_snoc_ints (m := m) hbl2.out (by omega) Sd4.out (j := 1) rfl has2.out)).mono ?_
                rintro e w9 ⟨B9, c9, out, rfl, ho1, ho2, T9⟩
                replace ho1 := Lib.hid ho1
                replace ho2 := Lib.hid ho2
                have Sd5 := Sd4.out.seq T9
                clear T9
                replace Sd5 := Lib.hid Sd5
                clear Sd4
                go_wp2_with fail
                refine hK.out _ _ ⟨Sd5.out.cell (i := 3) rfl (o := 0) rfl, Sd5.out.cell (i := 3) rfl (o := 1) rfl⟩ (fun hS5 => ?_)
                clear hK
                (try simp only [put_rules])
                (refine wpAnyH_take (i := 10) (v := ?_) rfl (by kernel_rfl) (by kernel_rfl) (by kernel_rfl) (fun _ _ _ h => h) (Or.inl ⟨by rfl, ?_⟩) (by assumption) ?_; rotate_left; (focus (intro w hSw; (try dsimp only at hSw); go_simp; (try with_reducible rfl); done)); (try simp only [put_rules]))
                (refine wpAnyH_take (i := 11) (v := ?_) rfl (by kernel_rfl) (by kernel_rfl) (by kernel_rfl) (fun _ _ _ h => h) (Or.inl ⟨by rfl, ?_⟩) (by assumption) ?_; rotate_left; (focus (intro w hSw; (try dsimp only at hSw); go_simp; (try with_reducible rfl); done)); (try simp only [put_rules]))
                (refine wpAnyH_take (i := 12) (v := ?_) rfl (by kernel_rfl) (by kernel_rfl) (by kernel_rfl) (fun _ _ _ h => h) (Or.inl ⟨by rfl, ?_⟩) (by assumption) ?_; rotate_left; (focus (intro w hSw; (try dsimp only at hSw); go_simp; (try with_reducible rfl); done)); (try simp only [put_rules]))
                (refine wpAnyH_take (i := 13) (v := ?_) rfl (by kernel_rfl) (by kernel_rfl) (by kernel_rfl) (fun _ _ _ h => h) (Or.inl ⟨by rfl, ?_⟩) (by assumption) ?_; rotate_left; (focus (intro w hSw; (try dsimp only at hSw); go_simp; (try with_reducible rfl); done)); (try simp only [put_rules]))
                (refine wpAnyH_take (i := 14) (v := ?_) rfl (by kernel_rfl) (by kernel_rfl) (by kernel_rfl) (fun _ _ _ h => h) (Or.inl ⟨by rfl, ?_⟩) (by assumption) ?_; rotate_left; (focus (intro w hSw; (try dsimp only at hSw); go_simp; (try with_reducible rfl); done)); (try simp only [put_rules]))
                (refine wpAnyH_done (by kernel_rfl) ?_ _)
                have SG : Hid (Sp w _ [Own 3 1 (.slice B9 out.length c9) out.length (out.map (.int .i64)), Box w.heap.size 26 #[.int .i64 n, .slice A m cap]]) := Sp.pick [0, 2] Sd5.out rfl
                clear Sd5
                go_wp2_with fail
                go_meet
                exact ⟨_, _, _, rfl, rfl, ho1, ho2, SG⟩
              · go_simp
                have Sd6 := Sd1.out.alloc_box #[.int .i64 i] 3
                (try simp only [World.size_alloc, drew_size2] at Sd6)
                replace Sd6 := Lib.hid Sd6
                clear Sd1
                refine hK.out _ _ ⟨Sd6.out.cell (i := 2) rfl (o := 0) rfl, Sd6.out.cell (i := 2) rfl (o := 1) rfl⟩ (fun hS6 => ?_)
                clear hK
                (try simp only [put_rules])
                (refine wpAnyH_ready (rs := [3]) (by kernel_rfl) (by simp) ?_; refine AllReadyH.cons rfl (fun K hK => ?_) AllReadyH.nil)
                (refine step_append_src rfl _ _ rfl Try.underlying30 hi hz0 hz1 hz2 rfl (by decide) _ 0 _ rfl (Sd6.out.own (i := 1) rfl) D bl dc _ rfl (hsr.out.grow Sd6.out.below) h1c.out (by unfold maxLen; omega) (by omega) ?_; intro vA wA hownA hgA hatA)
                have Sd7 := Sd6.out.own_push (i := 1) rfl (bb _) hownA hgA hatA
                obtain ⟨aA, cA, rfl⟩ := owns_form hownA
                rw [Nat.zero_add, List.nil_append] at Sd7
                clear hownA hgA hatA
                simp only [Nat.zero_add]
                replace Sd7 := Lib.hid Sd7
                clear Sd6
                refine hK.out _ _ ⟨Sd7.out.cell (i := 2) rfl (o := 0) rfl, Sd7.out.cell (i := 2) rfl (o := 1) rfl⟩ (fun hS7 => ?_)
                clear hK
                (try simp only [put_rules])
                (refine wpAnyH_ready (rs := [6]) (by kernel_rfl) (by simp) ?_; refine AllReadyH.cons rfl (fun K hK => ?_) AllReadyH.nil)
                (refine step_append_src rfl _ _ rfl Try.underlying30 hi hz0 hz1 hz2 rfl (by decide) _ bl _ rfl (Sd7.out.own (i := 1) rfl) _ 1 1 [.int .i64 i] rfl (Src.one (Sd7.out.cell (i := 0) rfl (o := 0) rfl)) (by simp [Value.oneCell']) (by unfold maxLen; omega) (by omega) ?_; intro vB wB hownB hgB hatB)
                have Sd8 := Sd7.out.own_push (i := 1) rfl (bb _) hownB hgB hatB
                obtain ⟨aB, cB, rfl⟩ := owns_form hownB
                clear hownB hgB hatB
                replace Sd8 := Lib.hid Sd8
                clear Sd7
                refine hK.out _ _ ⟨Sd8.out.cell (i := 2) rfl (o := 0) rfl, Sd8.out.cell (i := 2) rfl (o := 1) rfl⟩ (fun hS8 => ?_)
                clear hK
                (try simp only [put_rules])
                (refine wpAnyH_ready (rs := [9]) (by kernel_rfl) (by simp) ?_; refine AllReadyH.cons rfl (fun K hK => ?_) AllReadyH.nil)
                go_simp
                go_at_call 118
                refine (hcall.out aB cB _ Sd8.out.below (own_snoc_ints (m := m) hbl2.out (by omega) Sd8.out (j := 1) rfl has2.out)).mono ?_
                rintro e w9 ⟨B9, c9, out, rfl, ho1, ho2, T9⟩
                replace ho1 := Lib.hid ho1
                replace ho2 := Lib.hid ho2
                have Sd9 := Sd8.out.seq T9
                clear T9
                replace Sd9 := Lib.hid Sd9
                clear Sd8
                go_wp2_with fail
                refine hK.out _ _ ⟨Sd9.out.cell (i := 3) rfl (o := 0) rfl, Sd9.out.cell (i := 3) rfl (o := 1) rfl⟩ (fun hS9 => ?_)
                clear hK
                (try simp only [put_rules])
                (refine wpAnyH_take (i := 10) (v := ?_) rfl (by kernel_rfl) (by kernel_rfl) (by kernel_rfl) (fun _ _ _ h => h) (Or.inl ⟨by rfl, ?_⟩) (by assumption) ?_; rotate_left; (focus (intro w hSw; (try dsimp only at hSw); go_simp; (try with_reducible rfl); done)); (try simp only [put_rules]))
                (refine wpAnyH_take (i := 11) (v := ?_) rfl (by kernel_rfl) (by kernel_rfl) (by kernel_rfl) (fun _ _ _ h => h) (Or.inl ⟨by rfl, ?_⟩) (by assumption) ?_; rotate_left; (focus (intro w hSw; (try dsimp only at hSw); go_simp; (try with_reducible rfl); done)); (try simp only [put_rules]))
                (refine wpAnyH_take (i := 12) (v := ?_) rfl (by kernel_rfl) (by kernel_rfl) (by kernel_rfl) (fun _ _ _ h => h) (Or.inl ⟨by rfl, ?_⟩) (by assumption) ?_; rotate_left; (focus (intro w hSw; (try dsimp only at hSw); go_simp; (try with_reducible rfl); done)); (try simp only [put_rules]))
                (refine wpAnyH_take (i := 13) (v := ?_) rfl (by kernel_rfl) (by kernel_rfl) (by kernel_rfl) (fun _ _ _ h => h) (Or.inl ⟨by rfl, ?_⟩) (by assumption) ?_; rotate_left; (focus (intro w hSw; (try dsimp only at hSw); go_simp; (try with_reducible rfl); done)); (try simp only [put_rules]))
                (refine wpAnyH_take (i := 14) (v := ?_) rfl (by kernel_rfl) (by kernel_rfl) (by kernel_rfl) (fun _ _ _ h => h) (Or.inl ⟨by rfl, ?_⟩) (by assumption) ?_; rotate_left; (focus (intro w hSw; (try dsimp only at hSw); go_simp; (try with_reducible rfl); done)); (try simp only [put_rules]))
                (refine wpAnyH_done (by kernel_rfl) ?_ _)
                have SG : Hid (Sp w _ [Own 3 1 (.slice B9 out.length c9) out.length (out.map (.int .i64)), Box w.heap.size 26 #[.int .i64 n, .slice A m cap]]) := Sp.pick [0, 2] Sd9.out rfl
                clear Sd9
                go_wp2_with fail
                go_meet
                exact ⟨_, _, _, rfl, rfl, ho1, ho2, SG⟩
            · go_simp
              have Sd10 := Sd0.out.alloc_box #[.int .i64 i] 3
              (try simp only [World.size_alloc, drew_size2] at Sd10)
              replace Sd10 := Lib.hid Sd10
              clear Sd0
              refine hK.out _ _ ⟨Sd10.out.cell (i := 1) rfl (o := 0) rfl, Sd10.out.cell (i := 1) rfl (o := 1) rfl⟩ (fun hS10 => ?_)
              clear hK
              (try simp only [put_rules])
              (refine wpAnyH_ready (rs := [1]) (by kernel_rfl) (by simp) ?_; refine AllReadyH.cons rfl (fun K hK => ?_) AllReadyH.nil)
              go_simp
              have Sd11 := Sd10.out.own_made 3 1
              (try simp only [World.size_alloc, drew_size2] at Sd11)
              replace Sd11 := Lib.hid Sd11
              clear Sd10
              refine hK.out _ _ ⟨Sd11.out.cell (i := 2) rfl (o := 0) rfl, Sd11.out.cell (i := 2) rfl (o := 1) rfl⟩ (fun hS11 => ?_)
              clear hK
              (try simp only [put_rules])
              (refine wpAnyH_ready (rs := [3]) (by kernel_rfl) (by simp) ?_; refine AllReadyH.cons rfl (fun K hK => ?_) AllReadyH.nil)
              (refine step_append_src rfl _ _ rfl Try.underlying30 hi hz0 hz1 hz2 rfl (by decide) _ 0 _ rfl (Sd11.out.own (i := 0) rfl) D bl dc _ rfl (hsr.out.grow Sd11.out.below) h1c.out (by unfold maxLen; omega) (by omega) ?_; intro vA wA hownA hgA hatA)
              have Sd12 := Sd11.out.own_push (i := 0) rfl (bb _) hownA hgA hatA
              obtain ⟨aA, cA, rfl⟩ := owns_form hownA
              rw [Nat.zero_add, List.nil_append] at Sd12
              clear hownA hgA hatA
              simp only [Nat.zero_add]
              replace Sd12 := Lib.hid Sd12
              clear Sd11
              refine hK.out _ _ ⟨Sd12.out.cell (i := 2) rfl (o := 0) rfl, Sd12.out.cell (i := 2) rfl (o := 1) rfl⟩ (fun hS12 => ?_)
              clear hK
              (try simp only [put_rules])
              (refine wpAnyH_ready (rs := [6]) (by kernel_rfl) (by simp) ?_; refine AllReadyH.cons rfl (fun K hK => ?_) AllReadyH.nil)
              (refine step_append_src rfl _ _ rfl Try.underlying30 hi hz0 hz1 hz2 rfl (by decide) _ bl _ rfl (Sd12.out.own (i := 0) rfl) _ 1 1 [.int .i64 i] rfl (Src.one (Sd12.out.cell (i := 1) rfl (o := 0) rfl)) (by simp [Value.oneCell']) (by unfold maxLen; omega) (by omega) ?_; intro vB wB hownB hgB hatB)
              have Sd13 := Sd12.out.own_push (i := 0) rfl (bb _) hownB hgB hatB
              obtain ⟨aB, cB, rfl⟩ := owns_form hownB
              clear hownB hgB hatB
              replace Sd13 := Lib.hid Sd13
              clear Sd12
              refine hK.out _ _ ⟨Sd13.out.cell (i := 2) rfl (o := 0) rfl, Sd13.out.cell (i := 2) rfl (o := 1) rfl⟩ (fun hS13 => ?_)
              clear hK
              (try simp only [put_rules])
              (refine wpAnyH_ready (rs := [9]) (by kernel_rfl) (by simp) ?_; refine AllReadyH.cons rfl (fun K hK => ?_) AllReadyH.nil)
              go_simp
              go_at_call 118
              refine (hcall.out aB cB _ Sd13.out.below (own_snoc_ints (m := m) hbl2.out (by omega) Sd13.out (j := 0) rfl has2.out)).mono ?_
              rintro e w9 ⟨B9, c9, out, rfl, ho1, ho2, T9⟩
              replace ho1 := Lib.hid ho1
              replace ho2 := Lib.hid ho2
              have Sd14 := Sd13.out.seq T9
              clear T9
              replace Sd14 := Lib.hid Sd14
              clear Sd13
              go_wp2_with fail
              refine hK.out _ _ ⟨Sd14.out.cell (i := 3) rfl (o := 0) rfl, Sd14.out.cell (i := 3) rfl (o := 1) rfl⟩ (fun hS14 => ?_)
              clear hK
              (try simp only [put_rules])
              (refine wpAnyH_take (i := 10) (v := ?_) rfl (by kernel_rfl) (by kernel_rfl) (by kernel_rfl) (fun _ _ _ h => h) (Or.inl ⟨by rfl, ?_⟩) (by assumption) ?_; rotate_left; (focus (intro w hSw; (try dsimp only at hSw); go_simp; (try with_reducible rfl); done)); (try simp only [put_rules]))
              (refine wpAnyH_take (i := 11) (v := ?_) rfl (by kernel_rfl) (by kernel_rfl) (by kernel_rfl) (fun _ _ _ h => h) (Or.inl ⟨by rfl, ?_⟩) (by assumption) ?_; rotate_left; (focus (intro w hSw; (try dsimp only at hSw); go_simp; (try with_reducible rfl); done)); (try simp only [put_rules]))
              (refine wpAnyH_take (i := 12) (v := ?_) rfl (by kernel_rfl) (by kernel_rfl) (by kernel_rfl) (fun _ _ _ h => h) (Or.inl ⟨by rfl, ?_⟩) (by assumption) ?_; rotate_left; (focus (intro w hSw; (try dsimp only at hSw); go_simp; (try with_reducible rfl); done)); (try simp only [put_rules]))
              (refine wpAnyH_take (i := 13) (v := ?_) rfl (by kernel_rfl) (by kernel_rfl) (by kernel_rfl) (fun _ _ _ h => h) (Or.inl ⟨by rfl, ?_⟩) (by assumption) ?_; rotate_left; (focus (intro w hSw; (try dsimp only at hSw); go_simp; (try with_reducible rfl); done)); (try simp only [put_rules]))
              (refine wpAnyH_take (i := 14) (v := ?_) rfl (by kernel_rfl) (by kernel_rfl) (by kernel_rfl) (fun _ _ _ h => h) (Or.inl ⟨by rfl, ?_⟩) (by assumption) ?_; rotate_left; (focus (intro w hSw; (try dsimp only at hSw); go_simp; (try with_reducible rfl); done)); (try simp only [put_rules]))
              (refine wpAnyH_done (by kernel_rfl) ?_ _)
              have SG : Hid (Sp w _ [Own 3 1 (.slice B9 out.length c9) out.length (out.map (.int .i64)), Box w.heap.size 26 #[.int .i64 n, .slice A m cap]]) := Sp.pick [0, 2] Sd14.out rfl
              clear Sd14
              go_wp2_with fail
              go_meet
              exact ⟨_, _, _, rfl, rfl, ho1, ho2, SG⟩
        case rest =>
        clear hcall has2 HS c0 c1
        obtain ⟨B, c, out, rfl, rfl, ho1, ho2, HS2⟩ := hcut
        cases R2 with
        | none =>
          have hto2 := Lib.hid (hnx2.out rfl)
          have HS3 := Lib.hid HS2.out.tail
          clear HS2 ho1 ho2
          go_wp2_with fail
          go_roundw
          case rel => exact ⟨i + 1, by omega, by omega, by go_num, hto2, HS3⟩
          case measure => simp [intOf]; omega
        | some r =>
          obtain rfl : R = some r := hfd2.out r rfl
          have HS3 := Lib.hid (Sp.pick [0] HS2.out rfl)
          clear HS2
          go_wp2_with fail
          go_ret2
          exact ⟨B, c, out, rfl, ho1.out, ho2.out, HS3.out⟩
      · obtain rfl : i = m := by omega
        obtain rfl : R = none := hal.out hto.out
        have HS3 := HS.out.own_made 3 1
        have HS4 := Lib.hid (Sp.pick [0] HS3 rfl)
        clear HS HS3
        go_wp2_with fail
        go_ret2
        exact ⟨_, _, [], rfl, (fun is h => by cases h), (fun x hx => by simp at hx), HS4.out⟩
end Go.Proofs.Ytmikconjhmhekaa

/- Contract: the recursive closure that lists ascending lists, at every depth. -/
namespace Go.Proofs.Ytmikconjhmhekaa
open Go.RowKit

set_option maxRecDepth 100000 in
set_option maxHeartbeats 16000000 in
theorem grow_any (n many lim po pl pm pn pg : Nat) (hn : n ≤ 100) (hmm : many ≤ 1000) (hlim : lim ≤ 100000) : ∀ (d : Nat) (xs : List Nat) (a : Nat) (D : Option Addr) (dc : Nat) (B : Option Addr) (c : Nat) (cs : List Value) (LI : List (List Int)) (w0 W : World) (ps : List Asn), xs.length + d = many → (xs = [] → D = none) → a ≤ n + 1 → AscN (n + 1) xs → nextA xs ≤ a → LI.length + (goL (n + 1) xs d a).length ≤ lim →
    Sp w0 W (Own 3 1 (.slice D xs.length dc) xs.length ((ofN xs).map (.int .i64)) :: GB po pl pm pn pg B c cs LI n many lim ps) →
    Calls Try.prog 208 #[.slice D xs.length dc, .int .i64 a, .pointer (some ⟨po, 0, none⟩), .pointer (some ⟨pl, 0, none⟩), .pointer (some ⟨pm, 0, none⟩), .pointer (some ⟨pn, 0, none⟩), .pointer (some ⟨pg, 0, none⟩)] W fun e w' => e = .returned (.tuple #[]) ∧
      ∃ B' c' cs', Sp w0 w' (Own 3 1 (.slice D xs.length dc) xs.length ((ofN xs).map (.int .i64)) :: GB po pl pm pn pg B' c' cs' (LI ++ goL (n + 1) xs d a) n many lim ps) := by
  have eg : Enter1 208 := enters_of Try.func208 (by kernel_rfl) rfl
  unfold Enter1 at eg
  obtain ⟨i0, hi, hz0, hz1, hz2⟩ := info_parts infoInt
  intro d
  induction d with
  | zero =>
    intro xs a D dc B c cs LI w0 W ps hm hD ha has hna hL S
    rw [goL_zero] at hL ⊢
    exact grow_zero n many lim po pl pm pn pg hlim xs a D dc B c cs LI w0 W ps hm hmm hD (ofN_ok (m := n + 1) (by omega) has) hL S
  | succ d ih =>
    intro xs a D dc B c cs LI w0 W ps hm hD ha has hna hL S
    have hall := Lib.hid (soL_all (n + 1) xs d a)
    have hst := Lib.hid (soL_start (n + 1) xs d a)
    have hnx := Lib.hid (fun v (h : a ≤ v) => soL_next (M := n + 1) (xs := xs) (d := d) h)
    have hle := Lib.hid (fun v (h : a ≤ v) (h2 : v ≤ n + 1) => by
      have := soL_mono (M := n + 1) (xs := xs) (d := d) (a := a) (v := v) (n + 1 - v) h
      rw [show v + (n + 1 - v) = n + 1 by omega] at this
      exact this)
    rw [soL_all] at hL ⊢
    have hasn := Lib.hid (fun v (h : a ≤ v) (h2 : v < n + 1) => asc_snoc has (Nat.le_trans hna h) h2)
    have hih := Lib.hid (fun v (h : a ≤ v) (h2 : v < n + 1) D2 dc2 B2 c2 cs2 LI2 W2 ps2 (hL2 : LI2.length + (goL (n + 1) (xs ++ [v]) d (v + 1)).length ≤ lim) S2 => ih (xs ++ [v]) (v + 1) D2 dc2 B2 c2 cs2 LI2 w0 W2 ps2 (by simp; omega) (fun h => by simp at h) (by omega) (asc_snoc has (Nat.le_trans hna h) h2) (by rw [nextA_snoc]; omega) hL2 S2)
    have hsl : ∀ v : Nat, (xs ++ [v]).length = xs.length + 1 := by simp
    have hsv : ∀ v : Nat, (ofN (xs ++ [v])).map (Value.int .i64) = (ofN xs).map (.int .i64) ++ [.int .i64 (v : Int)] := by intro v; unfold ofN; simp
    simp only [hsl, hsv] at hih
    have hxl := asc_len has
    have hxm : xs.length < many := by omega
    have hln : ((ofN xs).map (Value.int .i64)).length = xs.length := by simp [ofN]
    obtain ⟨us, hus⟩ : ∃ us, (ofN xs).map (Value.int .i64) = us := ⟨_, rfl⟩
    simp only [hus] at hih S hln ⊢
    obtain ⟨xl, hxle⟩ : ∃ xl, xs.length = xl := ⟨_, rfl⟩
    simp only [hxle] at hih S hln hxl hxm ⊢
    clear ih hm hD has hna hsl hsv hus hxle
    replace hln := Lib.hid hln
    have c0 := S.cell (i := 2) rfl (o := 0) rfl
    have c1 := S.cell (i := 3) rfl (o := 0) rfl
    have c2 := S.cell (i := 4) rfl (o := 0) rfl
    have d0 : decide ((lim : Int) < (LI.length : Int)) = false := decide_eq_false (by omega)
    have d1 : ((xl : Int) == (many : Int)) = false := beq_eq_false_iff_ne.2 (by omega)
    have d2 : decide ((xl : Int) = (many : Int)) = false := decide_eq_false (by omega)
    have hL1 : LI.length ≤ lim := by omega
    replace hL := Lib.hid hL
    have S0 : Hid (Sp w0 W (Own 3 1 (.slice D xl dc) xl us :: GB po pl pm pn pg B c cs (LI ++ soL (n + 1) xs d a a) n many lim ps)) := by
      unfold Hid; rw [hst.out, List.append_nil]; exact S
    clear S
    go_enter Try.func208, Try.ntmps208
    go_wp2_with fail
    (try rw [decide_eq_false (show ¬ lim < LI.length by omega)])
    clear c0 c1 c2 d0
    go_loopw [9] (fun vi wr => ∃ (v : Nat) (B : Option Addr) (c : Nat) (cs : List Value), a ≤ v ∧ v ≤ n + 1 ∧ vi = .int .i64 v ∧ Hid (Sp w0 wr (Own 3 1 (.slice D xl dc) xl us :: GB po pl pm pn pg B c cs (LI ++ soL (n + 1) xs d a v) n many lim ps))) (fun vi _ => n + 1 - (intOf vi).toNat)
    case atStart => exact ⟨a, B, c, cs, Nat.le_refl _, ha, rfl, S0⟩
    case round =>
      obtain ⟨v, B, c, cs, hav, hvn, rfl, HS⟩ := hrel
      clear S0
      have c0 := HS.out.cell (i := 5) rfl (o := 0) rfl
      by_cases hlt : v ≤ n
      · have d3 : decide ((v : Int) ≤ (n : Int)) = true := decide_eq_true (by omega)
        have hw1 : IntKind.i64.wrap ((v : Int) + 1) = ((v + 1 : Nat) : Int) := by rw [IntWalk.i64_in _ (by omega)]; rfl
        have hnv := Lib.hid (hnx.out v hav)
        have hlv := hle.out (v + 1) (by omega) (by omega)
        rw [hnx.out v hav, List.length_append] at hlv
        have hcall := Lib.hid (fun D2 dc2 W2 ps2 S2 => hih.out v hav (by omega) D2 dc2 B c cs (LI ++ soL (n + 1) xs d a v) W2 ps2 (by rw [List.length_append]; have := hL.out; omega) S2)
        have g0 := HS.out.cell (i := 6) rfl (o := 0) rfl
        have S1 := Lib.hid HS.out.drew
        replace hlv := Lib.hid hlv
        generalize hso : soL (n + 1) xs d a v = SV at *
        generalize goL (n + 1) (xs ++ [v]) d (v + 1) = GV at *
        clear hso
        go_wp2_with fail
        refine wp_region_held_lit (S := (fun w' => w'.cell? ⟨pg, 0, none⟩ = some (.func (.func 208) #[] #[.pointer (some ⟨po, 0, none⟩), .pointer (some ⟨pl, 0, none⟩), .pointer (some ⟨pm, 0, none⟩), .pointer (some ⟨pn, 0, none⟩), .pointer (some ⟨pg, 0, none⟩)]))) 8 [false, false, false, false, false, false, false, false] (by kernel_rfl) (by kernel_rfl) (by kernel_rfl) ?_ ?_
        · exact g0
        intro hSc
        (refine wpAnyH_take (i := 0) (v := ?_) rfl (by kernel_rfl) (by kernel_rfl) (by kernel_rfl) (fun _ _ _ h => h) (Or.inl ⟨by rfl, ?_⟩) (by assumption) ?_; rotate_left; (focus (intro w hSw; (try dsimp only at hSw); go_simp; (try with_reducible rfl); done)); (try simp only [put_rules]))
        (refine wpAnyH_take (i := 1) (v := ?_) rfl (by kernel_rfl) (by kernel_rfl) (by kernel_rfl) (fun _ _ _ h => h) (Or.inl ⟨by rfl, ?_⟩) (by assumption) ?_; rotate_left; (focus (intro w hSw; (try dsimp only at hSw); go_simp; (try with_reducible rfl); done)); (try simp only [put_rules]))
        (refine wpAnyH_take (i := 2) (v := ?_) rfl (by kernel_rfl) (by kernel_rfl) (by kernel_rfl) (fun _ _ _ h => h) (Or.inl ⟨by rfl, ?_⟩) (by assumption) ?_; rotate_left; (focus (intro w hSw; (try dsimp only at hSw); go_simp; (try with_reducible rfl); done)); (try simp only [put_rules]))
        (refine wpAnyH_take (i := 5) (v := ?_) rfl (by kernel_rfl) (by kernel_rfl) (by kernel_rfl) (fun _ _ _ h => h) (Or.inl ⟨by rfl, ?_⟩) (by assumption) ?_; rotate_left; (focus (intro w hSw; (try dsimp only at hSw); go_simp; (try with_reducible rfl); done)); (try simp only [put_rules]))
        (refine wpAnyH_take (i := 6) (v := ?_) rfl (by kernel_rfl) (by kernel_rfl) (by kernel_rfl) (fun _ _ _ h => h) (Or.inl ⟨by rfl, ?_⟩) (by assumption) ?_; rotate_left; (focus (intro w hSw; (try dsimp only at hSw); go_simp; (try with_reducible rfl); done)); (try simp only [put_rules]))
        (refine wpAnyH_ready (rs := [3]) (by kernel_rfl) (by simp) ?_; refine AllReadyH.cons rfl (fun K hK => ?_) AllReadyH.nil)
        go_simp
        have S2 := S1.out.alloc_box #[.int .i64 (v : Int)] 3
        have kB := S2.cell (i := 0) rfl (o := 0) rfl
        refine hK.out _ _ (S2.cell (i := 7) rfl (o := 0) rfl) (fun hS2 => ?_)
        replace S2 := Lib.hid S2
        clear hK hSc S1 HS c0 g0
        (try simp only [put_rules])
        (refine wpAnyH_ready (rs := [4]) (by kernel_rfl) (by simp) ?_; refine AllReadyH.cons rfl (fun K hK => ?_) AllReadyH.nil)
        (refine step_append_keep rfl _ _ rfl Try.underlying30 hi hz0 hz1 hz2 rfl (by decide) _ xl _ rfl (S2.out.own (i := 1) rfl) ⟨wr.heap.size, 0, none⟩ 1 1 [.int .i64 (v : Int)] rfl rfl (fun j u hj => by
          match j, hj with
          | 0, hj => simp at hj; subst hj; rw [add_none]; exact kB) (by simp [Value.oneCell']) (by unfold maxLen; omega) (by omega) (by decide) ?_; intro vA wA hownA hgA hatA)
        have hfin : ∃ (D2 : Option Addr) (dc2 : Nat), vA = .slice D2 (xl + 1) dc2 ∧ ∃ ps2, Sp w0 wA (Own 3 1 (.slice D2 (xl + 1) dc2) (xl + 1) (us ++ [.int .i64 (v : Int)]) :: GB po pl pm pn pg B c cs (LI ++ SV) n many lim ps2) ∧
            ∀ wz B' c' cs' LI', Sp w0 wz (Own 3 1 (.slice D2 (xl + 1) dc2) (xl + 1) (us ++ [.int .i64 (v : Int)]) :: GB po pl pm pn pg B' c' cs' LI' n many lim ps2) → Sp w0 wz (Own 3 1 (.slice D xl dc) xl us :: GB po pl pm pn pg B' c' cs' LI' n many lim ps) := by
          rcases hatA with ⟨A2, cap2, e1, rfl⟩ | ⟨hnew, hbel⟩
          · cases e1
            refine ⟨D, dc, rfl, ps, ?_, fun wz B' c' cs' LI' h => ?_⟩
            · exact (S2.out.own_push (i := 1) rfl (bb _) hownA hgA (.inl (by cases D <;> simp [Value.ownBlock]))).tail
            · obtain ⟨g', cap', cur', e2, -⟩ := own_block (h.own (i := 0) rfl) (by omega)
              simp only [Value.slice.injEq] at e2
              obtain ⟨rfl, -, rfl⟩ := e2
              have h2 := h.own_cut (i := 0) (m := xl) rfl (by omega)
              rw [show (us ++ [Value.int .i64 (v : Int)]).take xl = us by rw [← hln.out]; exact List.take_left] at h2
              exact h2
          · obtain ⟨D2, dc2, rfl⟩ := own_slice hownA
            refine ⟨D2, dc2, rfl, Own 3 1 (.slice D xl dc) xl us :: ps, ?_, fun wz B' c' cs' LI' h => h.move_out⟩
            have h1 := S2.out.tail.own_new hbel hownA (fun g hg => by rw [hnew] at hg; cases hg; exact Nat.le_refl _)
            exact h1.move_in
        obtain ⟨D2, dc2, rfl, ps2, S3, hback⟩ := hfin
        have hc3 := hcall.out D2 dc2 wA ps2 S3
        rw [show ((v + 1 : Nat) : Int) = (v : Int) + 1 from rfl] at hc3
        replace hc3 := Lib.hid hc3
        refine hK.out _ _ (S3.cell (i := 6) rfl (o := 0) rfl) (fun hS3 => ?_)
        replace hback := Lib.hid hback
        clear hK hS2 S2 S3 hcall kB hownA hgA hatA
        (try simp only [put_rules])
        (refine wpAnyH_ready (rs := [7]) (by kernel_rfl) (by simp) ?_; refine AllReadyH.cons rfl (fun K hK => ?_) AllReadyH.nil)
        go_simp
        refine hc3.out.mono ?_
        rintro e w4 ⟨rfl, B', c', cs', S4⟩
        have S5 := hback.out _ _ _ _ _ S4
        rw [List.append_assoc, ← hnv.out] at S5
        have g0 := S5.cell (i := 6) rfl (o := 0) rfl
        replace S5 := Lib.hid S5
        clear hc3 hback S4
        go_wp2_with fail
        refine hK.out _ _ g0 (fun hS4 => ?_)
        clear hK hS3 g0
        (try simp only [put_rules])
        (refine wpAnyH_done (by kernel_rfl) ?_ _)
        go_wp2_with fail
        go_roundw
        case rel => exact ⟨v + 1, B', c', cs', by omega, by omega, by go_num, S5⟩
        case measure => simp [intOf]; omega
      · obtain rfl : v = n + 1 := by omega
        have d3 : decide (((n + 1 : Nat) : Int) ≤ (n : Int)) = false := decide_eq_false (by omega)
        replace HS := Lib.hid HS.out
        go_wp2_with fail
        exact bodyPost_end (v := .tuple #[]) (by simp [results, Try.results208, go_sem]) rfl ⟨rfl, B, c, cs, HS.out⟩
end Go.Proofs.Ytmikconjhmhekaa

/- Contract: all ascending lists of a length, in the program. -/
namespace Go.Proofs.Ytmikconjhmhekaa
open Go.RowKit

set_option maxRecDepth 100000 in
set_option maxHeartbeats 8000000 in
theorem choices_any (n many lim : Nat) (hn : n ≤ 100) (hmm : many ≤ 1000) (hlim : lim ≤ 100000) (hL : (goL (n + 1) [] many 1).length ≤ lim) (w : World) :
    Calls Try.prog 117 #[.int .i64 n, .int .i64 many, .int .i64 lim] w fun e w' => ∃ B c cs, e = .returned (.slice B (goL (n + 1) [] many 1).length c) ∧ Sp w w' [Rows Ty.int 30 (.slice B (goL (n + 1) [] many 1).length c) cs (goL (n + 1) [] many 1)] := by
  have Sn := (((((Sp.start w).alloc_box #[.int .i64 n] 3).alloc_box #[.int .i64 many] 3).alloc_box #[.int .i64 lim] 3).alloc_box #[.slice none 0 0] 24).alloc_box #[.func (.func 208) #[] #[.pointer (some ⟨w.heap.size + 1 + 1 + 1, 0, none⟩), .pointer (some ⟨w.heap.size + 1 + 1, 0, none⟩), .pointer (some ⟨w.heap.size + 1, 0, none⟩), .pointer (some ⟨w.heap.size, 0, none⟩), .pointer (some ⟨w.heap.size + 1 + 1 + 1 + 1, 0, none⟩)]] 161
  simp only [World.size_alloc] at Sn
  have S0 := Sn
  have S1 := (((S0.rows_nil Ty.int 30).own_nil 3 1))
  have S2 : Sp w _ (Own 3 1 (.slice none ([] : List Nat).length 0) ([] : List Nat).length ((ofN []).map (.int .i64)) :: GB (w.heap.size + 1 + 1 + 1) (w.heap.size + 1 + 1) (w.heap.size + 1) w.heap.size (w.heap.size + 1 + 1 + 1 + 1) none 0 [] [] n many lim []) := Sp.pick [0, 0, 1, 1, 1, 1, 0] S1 rfl
  have hcall := Lib.hid (grow_any n many lim (w.heap.size + 1 + 1 + 1) (w.heap.size + 1 + 1) (w.heap.size + 1) w.heap.size (w.heap.size + 1 + 1 + 1 + 1) hn hmm hlim many [] 1 none 0 none 0 [] [] w _ [] (by simp) (fun _ => rfl) (by omega) ⟨by simp, by simp⟩ (by rw [nextA_nil]; omega) (by simpa using hL) S2)
  have g0 := S2.cell (i := 6) rfl (o := 0) rfl
  clear S0 S1 hL Sn
  simp only [List.nil_append, List.length_nil, show ((1 : Nat) : Int) = 1 from rfl] at hcall
  generalize goL (n + 1) [] many 1 = GL at *
  go_enter Try.func117, Try.ntmps117
  go_wp2_with fail
  refine hcall.out.mono ?_
  rintro e w2 ⟨rfl, B, c, cs, S3⟩
  have c2 := S3.cell (i := 2) rfl (o := 0) rfl
  have S4 := Lib.hid (Sp.pick [1] S3 rfl)
  clear hcall S3 g0 S2
  go_wp2_with fail
  go_ret
  exact ⟨B, c, cs, rfl, S4.out⟩
end Go.Proofs.Ytmikconjhmhekaa

/- A store into a row of a row of rows; lists made less by one. -/
namespace Go.Proofs.Ytmikconjhmhekaa
open Go.RowKit

theorem Sp.rows_set {w0 w : World} {ps : List Asn} {i : Nat} {e : TypeId} {v : Value} {cs : List Value} {xss : List (List Int)} (h : Sp w0 w ps) (hi : ps[i]? = some (Rows Ty.int e v cs xss)) {j k : Nat} (hj : j < xss.length) (hk : k < xss[j].length) (y : Int) (hy : I64 y) :
    ∃ b off cap, cs[j]? = some (.slice (some ⟨b, off, none⟩) xss[j].length cap) ∧ w.cell? ⟨b, off + k, none⟩ = some (.int .i64 xss[j][k]) ∧ w.frozen? ⟨b, off + k, none⟩ = false ∧
      Sp w0 (w.setCell ⟨b, off + k, none⟩ (.int .i64 y)) (ps.set i (Rows Ty.int e v cs (xss.set j (xss[j].set k y)))) := by
  obtain ⟨Fi, ⟨G, rfl, hnd, hall, hown⟩, hF, hup⟩ := h.upd hi
  obtain ⟨c, d, e', F1, F2, F3, rfl, rfl, hl, h1, ⟨u, rfl, hr⟩, h3⟩ := Ty.all_split hall j hj
  obtain ⟨a, cap, rfl, hc1, hc2, hI, hh⟩ := row_int hr
  rcases hh with ⟨hn, -⟩ | ⟨hne, b, off, rfl, rfl, hcell⟩
  · rw [hn] at hk; exact absurd hk (by simp)
  have hl2 : c.length = j := by rw [hl]; exact Nat.mul_one j
  have hbk := hcell k hk
  refine ⟨b, off, cap, by subst hl2; simp, hbk.1, hbk.2 rfl, ?_⟩
  have hnd2 := List.nodup_append.1 hnd
  have hbG : b ∉ v.ownBlock.toList := fun hm => hnd2.2.2 b hm b (by simp) rfl
  have hnd3 := List.nodup_append.1 hnd2.2.1
  have hnd4 := List.nodup_append.1 hnd3.1
  have hb1 : b ∉ F1 := fun hm => hnd4.2.2 b hm b (by simp) rfl
  have hb3 : b ∉ F3 := fun hm => hnd3.2.2 b (by simp) b hm rfl
  have hsame : ∀ g, g ≠ b → (w.setCell ⟨b, off + k, none⟩ (.int .i64 y)).heap[g]? = w.heap[g]? := fun g hg => by
    have : b ≠ g := fun e => hg e.symm
    simp [World.setCell, Array.getElem?_modify, this]
  have hlen : (xss[j].set k y).length = xss[j].length := by simp
  have hnew : Ty.int.row true (w.setCell ⟨b, off + k, none⟩ (.int .i64 y)) (.slice (some ⟨b, off, none⟩) xss[j].length cap) (xss[j].set k y) [b] := by
    rw [← hlen]
    refine row_int_mk (fun x hx => ?_) (by rw [hlen]; exact hc1) hc2 (fun e => by have := congrArg List.length e; rw [hlen] at this; exact hne (List.length_eq_zero_iff.1 this)) (fun m hm => ?_)
    · rcases List.mem_or_eq_of_mem_set hx with hx | rfl
      · exact hI x hx
      · exact hy
    · have hm2 : m < xss[j].length := by rw [hlen] at hm; exact hm
      have hcm := hcell m hm2
      by_cases hmk : m = k
      · subst hmk
        rw [List.getElem_set_self]
        exact ⟨World.cell?_setCell_same' _ _ _ (by rw [hcm.1]; rfl), fun _ => by rw [World.frozen?_setCell]; exact hcm.2 rfl⟩
      · rw [List.getElem_set_ne (fun e => hmk e.symm)]
        exact ⟨by rw [World.cell?_setCell_other w _ _ _ (by simp only [ne_eq, Addr.mk.injEq]; omega)]; exact hcm.1, fun _ => by rw [World.frozen?_setCell]; exact hcm.2 rfl⟩
  have hset : xss.set j (xss[j].set k y) = xss.take j ++ (xss[j].set k y :: xss.drop (j + 1)) := by
    rw [List.set_eq_take_append_cons_drop, if_pos hj]
  refine hup _ _ (v.ownBlock.toList ++ (F1 ++ [b] ++ F3)) ?_ ⟨F1 ++ [b] ++ F3, rfl, hnd, ?_, ?_⟩ (fun g hg => .inl hg)
  · exact (Chg.refl _ _).set (p := ⟨b, off + k, none⟩) (by simp) _
  · rw [hset, List.append_assoc c, List.append_assoc F1]
    refine Ty.all_append (Ty.all_keep h1 fun g hg => hsame g (fun e => hb1 (e ▸ hg))) ?_
    exact Ty.all_append (cs := [_]) (xs := [_]) (Ty.all_one ⟨_, rfl, hnew⟩) (Ty.all_keep h3 fun g hg => hsame g (fun e => hb3 (e ▸ hg)))
  · rw [List.length_set]
    exact owns_keep hown fun g hg => hsame g (fun e => hbG (by rw [← e, hg]; simp))
/-- The lists that 'choices' tells, as indices from one on. -/
theorem combs_up (m : Nat) : ∀ (k a : Nat), combs (m + 1) k (a + 1) = (combs m k a).map fun t => t.map (· + 1)
  | 0, a => by simp [combs]
  | k + 1, a => by
    unfold combs
    rw [show m + 1 - (a + 1) = m - a by omega, List.map_flatMap]
    have hr : List.range' (a + 1) (m - a) = (List.range' a (m - a)).map (· + 1) := by
      rw [show (fun x : Nat => x + 1) = (1 + ·) by funext x; omega, List.map_add_range', Nat.add_comm 1 a]
    rw [hr, List.flatMap_map]
    congr 1
    funext v
    rw [combs_up m k (v + 1), List.map_map, List.map_map]
    rfl
theorem goL_up (m k : Nat) : goL (m + 1) [] k 1 = (combs m k 0).map fun t => ofN (t.map (· + 1)) := by
  unfold goL
  rw [show (1 : Nat) = 0 + 1 from rfl, combs_up, List.map_map]
  rfl
end Go.Proofs.Ytmikconjhmhekaa

/- Contract: the least core of a Cnf, in the reference. -/
namespace Go.Proofs.Ytmikconjhmhekaa
open Go.RowKit

/-- The least core that is told. -/
def leastR (n : Nat) (vars : Int) (xss : List (List Int)) : Option (List Nat) := if goodB vars xss && decide (xss.length ≤ 12) && !(List.range (2 ^ n)).any (modT xss) then leastTo (coreB n xss) xss.length (xss.length + 1) else none
def listR (r : Option (List Nat)) : List Int := match r with
  | some is => ofN is
  | none => []

set_option maxRecDepth 100000 in
set_option maxHeartbeats 8000000 in
theorem specLeast5_any (vars : Int) (v : Value) (xss : List (List Int)) (F : List Nat) (w : World) (hx : (Ty.slice Ty.int).row false w v xss F) :
    Calls Try.prog 29 #[.agg #[.int .i64 vars, v]] w (IAns w (leastR vars.toNat vars xss).isSome (listR (leastR vars.toNat vars xss))) := by
  obtain ⟨A, cap, rfl, hI⟩ := cls_row hx
  have S0 := (Sp.start w).alloc_box #[.int .i64 vars, .slice A xss.length cap] 26
  have hcall := Lib.hid (l2Good_any vars _ xss F _ (Ty.row_below hx S0.below (Ty.row_lt hx)))
  replace S0 := Lib.hid S0
  have c0 := S0.out.cell (i := 0) rfl (o := 0) rfl
  have c1 := S0.out.cell (i := 0) rfl (o := 1) rfl
  clear hx
  cases h1 : goodB vars xss
  · rw [h1] at hcall
    rw [show leastR vars.toNat vars xss = none by unfold leastR; rw [h1]; rfl]
    go_enter Try.func29, Try.ntmps29
    go_wp2_with fail
    refine hcall.out.mono ?_
    rintro e w1 ⟨rfl, hb1⟩
    have hB := Lib.hid (S0.out.grow hb1).below
    clear hcall S0 c0 c1 hb1
    go_wp2_with fail
    go_ret2
    exact ⟨_, _, rfl, ⟨fun j hj => by simp [listR] at hj, fun c hc => by simp [listR] at hc⟩, bal hB.out _⟩
  have hg := good_cnf h1
  rw [h1] at hcall
  by_cases h12 : xss.length ≤ 12
  case neg =>
    rw [show leastR vars.toNat vars xss = none by unfold leastR; rw [h1, decide_eq_false h12]; rfl]
    have d12 : decide ((12 : Int) < (xss.length : Int)) = true := decide_eq_true (by omega)
    clear hg hI
    go_enter Try.func29, Try.ntmps29
    go_wp2_with fail
    refine hcall.out.mono ?_
    rintro e w1 ⟨rfl, hb1⟩
    have S1 := Lib.hid (S0.out.grow hb1)
    clear hcall S0 c0 c1 hb1
    have c1 := S1.out.cell (i := 0) rfl (o := 1) rfl
    have hB := Lib.hid S1.out.below
    clear S1
    go_wp2_with fail
    go_ret2
    exact ⟨_, _, rfl, ⟨fun j hj => by simp [listR] at hj, fun c hc => by simp [listR] at hc⟩, bal hB.out _⟩
  have d12 : decide ((12 : Int) < (xss.length : Int)) = false := decide_eq_false (by omega)
  obtain ⟨n, rfl⟩ := Int.eq_ofNat_of_zero_le hg.1.1
  rw [show (n : Int).toNat = n by omega]
  have hn : n ≤ 12 := by omega
  have hsat := Lib.hid (fun W hb => l5Sat_any n hn xss hg.2.2.2 (by omega) A cap W (hI.grow hb))
  cases hq : (List.range (2 ^ n)).any (modT xss)
  case true =>
    rw [show leastR n n xss = none by unfold leastR; rw [h1, hq, Bool.not_true, Bool.and_false]; rfl]
    rw [hq] at hsat
    clear hg hI
    go_enter Try.func29, Try.ntmps29
    go_wp2_with fail
    refine hcall.out.mono ?_
    rintro e w1 ⟨rfl, hb1⟩
    have S1 := Lib.hid (S0.out.grow hb1)
    clear hcall S0 c0 c1 hb1
    have c0 := S1.out.cell (i := 0) rfl (o := 0) rfl
    have c1 := S1.out.cell (i := 0) rfl (o := 1) rfl
    go_wp2_with fail
    refine (hsat.out _ S1.out.below).mono ?_
    rintro e w2 ⟨rfl, hb2⟩
    have hB := Lib.hid (S1.out.grow hb2).below
    clear hsat S1 c0 c1 hb2
    go_wp2_with fail
    go_ret2
    exact ⟨_, _, rfl, ⟨fun j hj => by simp [listR] at hj, fun c hc => by simp [listR] at hc⟩, bal hB.out _⟩
  case false =>
    rw [show leastR n n xss = leastTo (coreB n xss) xss.length (xss.length + 1) by unfold leastR; rw [h1, hq, decide_eq_true h12]; rfl]
    rw [hq] at hsat
    have hch := Lib.hid (fun k (hk : k ≤ 1000) D dc W (h : Below w.heap.size w W) => l5Choose_any n hn xss hg.2.2.2 hg.2.1 A cap k hk [] D dc W ⟨by simp, by simp⟩ (hI.grow h) (IntsAt.nil _ _))
    simp only [nextA_nil, List.length_nil] at hch
    obtain ⟨P, hP⟩ : ∃ P, coreB n xss = P := ⟨_, rfl⟩
    simp only [hP] at hch ⊢
    have hnx := Lib.hid (fun k h h2 => leastTo_next (P := P) (m := xss.length) (k := k) h h2)
    have hfd := Lib.hid (fun k r (hk : k < xss.length + 1) h h2 => leastTo_found (P := P) (m := xss.length) (k := k) (r := r) hk h h2)
    obtain ⟨R, hR⟩ : ∃ R, leastTo P xss.length (xss.length + 1) = R := ⟨_, rfl⟩
    rw [hR] at hfd ⊢
    have hend : Hid (leastTo P xss.length (xss.length + 1) = none → R = none) := fun h => hR.symm.trans h
    have hto0 : Hid (leastTo P xss.length 0 = none) := rfl
    obtain ⟨m, hm⟩ : ∃ m, xss.length = m := ⟨_, rfl⟩
    rw [hm] at S0 c1 hcall hsat hch hnx hfd hend hto0 d12 h12 ⊢
    clear hg hI hP hR hm hq
    go_enter Try.func29, Try.ntmps29
    go_wp2_with fail
    refine hcall.out.mono ?_
    rintro e w1 ⟨rfl, hb1⟩
    have S1 := Lib.hid (S0.out.grow hb1)
    clear hcall S0 c0 c1 hb1
    have c0 := S1.out.cell (i := 0) rfl (o := 0) rfl
    have c1 := S1.out.cell (i := 0) rfl (o := 1) rfl
    go_wp2_with fail
    refine (hsat.out _ S1.out.below).mono ?_
    rintro e w2 ⟨rfl, hb2⟩
    have S2 := Lib.hid (S1.out.grow hb2)
    clear hsat S1 c0 c1 hb2
    go_wp2_with fail
    go_loopw [4, 5, 6] (fun vi _ _ wr => ∃ k : Nat, k ≤ m + 1 ∧ vi = .int .i64 k ∧ Hid (leastTo P m k = none) ∧ Hid (Sp w wr [Box w.heap.size 26 #[.int .i64 n, .slice A m cap]])) (fun vi _ _ _ => m + 1 - (intOf vi).toNat)
    case atStart => exact ⟨0, Nat.zero_le _, rfl, hto0, S2⟩
    case round =>
      obtain ⟨k, hk, rfl, hto, HS⟩ := hrel
      clear S2 hto0
      have c0 := HS.out.cell (i := 0) rfl (o := 0) rfl
      have c1 := HS.out.cell (i := 0) rfl (o := 1) rfl
      by_cases hlt : k ≤ m
      · have S3 := Lib.hid (HS.out.alloc (.cells #[] 3))
        have hc3 := Lib.hid (hch.out k (by omega) (some ⟨wr.heap.size, 0, none⟩) 0 _ S3.out.below)
        have hnx2 := Lib.hid (fun h2 => hnx.out k hto.out h2)
        have hfd2 := Lib.hid (fun r h2 => hfd.out k r (by omega) hto.out h2)
        obtain ⟨R2, hR2⟩ : ∃ R2, chF P m k [] 0 = R2 := ⟨_, rfl⟩
        simp only [hR2] at hc3 hnx2 hfd2
        clear hR2 HS
        go_wp2_with fail
        refine hc3.out.mono ?_
        rintro e w4 ⟨B, c, out, rfl, ho1, ho2, T⟩
        have S4 := Lib.hid (S3.out.seq T)
        replace ho1 := Lib.hid ho1
        replace ho2 := Lib.hid ho2
        clear hc3 T S3 c0 c1
        cases R2 with
        | none =>
          have hto2 := Lib.hid (hnx2.out rfl)
          have S5 := Lib.hid S4.out.tail
          clear S4 ho1 ho2
          go_wp2_with fail
          go_roundw
          case rel => exact ⟨k + 1, by omega, by go_num, hto2, S5⟩
          case measure => simp [intOf]; omega
        | some r =>
          obtain rfl : R = some r := hfd2.out r rfl
          obtain ⟨G, hr, -, -⟩ := own_row (S4.out.own (i := 0) rfl) ho2.out
          obtain ⟨B', c', e', hT⟩ := ints_row (Ty.row_down hr)
          cases e'
          have hB := Lib.hid S4.out.below
          have hor : Hid (out = ofN r) := ho1.out r rfl
          replace hT := Lib.hid hT
          clear S4 hr
          go_wp2_with fail
          go_ret2
          have hor2 := hor.out
          subst hor2
          exact ⟨B, c, rfl, hT.out, hB.out⟩
      · obtain rfl : k = m + 1 := by omega
        obtain rfl : R = none := hend.out hto.out
        have hB := Lib.hid HS.out.below
        have hlt2 : decide (((m + 1 : Nat) : Int) ≤ (m : Int)) = false := decide_eq_false (by omega)
        clear HS
        go_wp2_with fail
        go_ret2
        exact ⟨_, _, rfl, ⟨fun j hj => by simp [listR] at hj, fun c hc => by simp [listR] at hc⟩, bal hB.out _⟩
end Go.Proofs.Ytmikconjhmhekaa

/- Contract: the least core of a Cnf, in the program. -/
namespace Go.Proofs.Ytmikconjhmhekaa
open Go.RowKit

theorem Sp.rows_put {w0 w : World} {ps : List Asn} {i : Nat} {e : TypeId} {v : Value} {cs : List Value} {xss : List (List Int)} (h : Sp w0 w ps) (hi : ps[i]? = some (Rows Ty.int e v cs xss)) {j k : Nat} {ys : List Int} {z : Int} (hj : xss[j]? = some ys) (hk : ys[k]? = some z) (y : Int) (hy : I64 y) :
    ∃ b off cap, cs[j]? = some (.slice (some ⟨b, off, none⟩) ys.length cap) ∧ w.cell? ⟨b, off + k, none⟩ = some (.int .i64 z) ∧ w.frozen? ⟨b, off + k, none⟩ = false ∧
      Sp w0 (w.setCell ⟨b, off + k, none⟩ (.int .i64 y)) (ps.set i (Rows Ty.int e v cs (xss.set j (ys.set k y)))) := by
  obtain ⟨hjl, rfl⟩ := List.getElem?_eq_some_iff.1 hj
  obtain ⟨hkl, rfl⟩ := List.getElem?_eq_some_iff.1 hk
  exact h.rows_set hi hjl hkl y hy
theorem Sp.rows_row {w0 w : World} {ps : List Asn} {i : Nat} {e : TypeId} {v : Value} {cs : List Value} {xss : List (List Int)} (h : Sp w0 w ps) (hi : ps[i]? = some (Rows Ty.int e v cs xss)) {j : Nat} {ys : List Int} (hj : xss[j]? = some ys) :
    ∃ E c F, cs[j]? = some (.slice E ys.length c) ∧ Ty.int.row false w (.slice E ys.length c) ys F := by
  obtain ⟨hjl, rfl⟩ := List.getElem?_eq_some_iff.1 hj
  obtain ⟨F, ⟨G, -, -, hall, -⟩, -⟩ := h.get hi
  obtain ⟨c, d, e', F1, F2, F3, rfl, rfl, hl, -, ⟨u, rfl, hr⟩, -⟩ := Ty.all_split hall j hjl
  obtain ⟨E, cc, rfl, -, -⟩ := Ty.row_len hr
  have hl2 : c.length = j := by rw [hl]; exact Nat.mul_one j
  exact ⟨E, cc, F2, by subst hl2; simp, Ty.row_down hr⟩
theorem Sp.rows_at {w0 W : World} {ps : List Asn} {i L c j : Nat} {e : TypeId} {B : Option Addr} {cs : List Value} {xss : List (List Int)} {u : Value} (h : Sp w0 W ps) (hi : ps[i]? = some (Rows Ty.int e (.slice B L c) cs xss)) (hl : xss.length = L) (hu : cs[j]? = some u) : ∃ rb, B = some ⟨rb, 0, none⟩ ∧ W.cell? ⟨rb, j, none⟩ = some u := by
  have ho := h.rows hi
  have hjl := (List.getElem?_eq_some_iff.1 hu).1
  have hn : cs.length = xss.length := by have := ho.1; omega
  obtain ⟨g, cap', cur, e1, -, hh, -, -, -, ht⟩ := own_block ho (by omega)
  simp only [Value.slice.injEq] at e1
  obtain ⟨rfl, -, rfl⟩ := e1
  exact ⟨g, rfl, by rw [(own_at hh ht (o := j) (by omega)).1]; exact hu⟩
/-- A list of indices, the first i of them made less by one. -/
def decT (t : List Nat) (i : Nat) : List Int := ofN (t.take i ++ (t.drop i).map (· + 1))
theorem decT_zero (t : List Nat) : decT t 0 = ofN (t.map (· + 1)) := by simp [decT]
theorem decT_all (t : List Nat) : decT t t.length = ofN t := by simp [decT]
theorem decT_len (t : List Nat) (i : Nat) : (decT t i).length = t.length := by unfold decT; rw [ofN_len]; simp; omega
theorem decT_at {t : List Nat} {i : Nat} (h : i < t.length) : (decT t i)[i]? = some ((t[i] : Int) + 1) := by
  unfold decT ofN
  rw [List.getElem?_map, List.getElem?_append_right (by simp; omega), List.length_take, Nat.min_eq_left (by omega), Nat.sub_self, List.getElem?_map, List.getElem?_drop]
  simp [h]
theorem decT_set {t : List Nat} {i : Nat} (h : i < t.length) : (decT t i).set i (t[i] : Int) = decT t (i + 1) := by
  apply List.ext_getElem?
  intro q
  rw [List.getElem?_set]
  unfold decT ofN
  by_cases hq : i = q
  · subst hq
    rw [if_pos rfl, if_pos (by simp; omega), List.getElem?_map, List.getElem?_append_left (by simp; omega), List.getElem?_take, if_pos (by omega), List.getElem?_eq_getElem h]
    rfl
  · rw [if_neg hq, List.getElem?_map, List.getElem?_map]
    congr 1
    by_cases hlt : q < i
    · rw [List.getElem?_append_left (by simp; omega), List.getElem?_append_left (by simp; omega), List.getElem?_take, List.getElem?_take, if_pos hlt, if_pos (by omega)]
    · by_cases hqt : q < t.length
      · rw [List.getElem?_append_right (by simp; omega), List.getElem?_append_right (by simp; omega), List.length_take, List.length_take, Nat.min_eq_left (by omega), Nat.min_eq_left (by omega), List.getElem?_map, List.getElem?_map, List.getElem?_drop, List.getElem?_drop]
        congr 2
        omega
      · rw [List.getElem?_eq_none (by simp; omega), List.getElem?_eq_none (by simp; omega)]
theorem find_next {P : List Nat → Bool} {cb : List (List Nat)} {j : Nat} (hj : j < cb.length) (h : (cb.take j).find? P = none) (h2 : P cb[j] = false) : (cb.take (j + 1)).find? P = none := by
  rw [List.take_succ_eq_append_getElem hj, List.find?_append, h]
  simp [h2]
theorem find_here {P : List Nat → Bool} {cb : List (List Nat)} {j : Nat} (hj : j < cb.length) (h : (cb.take j).find? P = none) (h2 : P cb[j] = true) : cb.find? P = some cb[j] := by
  conv => lhs; rw [← List.take_append_drop j cb]
  rw [List.find?_append, h, Option.none_or, List.drop_eq_getElem_cons hj, List.find?_cons, h2]
theorem chF_find (P : List Nat → Bool) (m k : Nat) : chF P m k [] 0 = (combs m k 0).find? P := by
  rw [chF_combs]
  congr 1
  exact List.map_id _

set_option maxRecDepth 100000 in
set_option maxHeartbeats 8000000 in
theorem implLeast5_any (vars : Int) (v : Value) (xss : List (List Int)) (F : List Nat) (w : World) (hx : (Ty.slice Ty.int).row false w v xss F) :
    Calls Try.prog 28 #[.agg #[.int .i64 vars, v]] w (IAnsC w (leastR vars.toNat vars xss).isSome (listR (leastR vars.toNat vars xss))) := by
  obtain ⟨A, cap, rfl, hI⟩ := cls_row hx
  have S0 := (Sp.start w).alloc_box #[.int .i64 vars, .slice A xss.length cap] 26
  have hcall := Lib.hid (implIsCnf_any vars _ xss F _ (Ty.row_below hx S0.below (Ty.row_lt hx)))
  replace S0 := Lib.hid S0
  have c0 := S0.out.cell (i := 0) rfl (o := 0) rfl
  have c1 := S0.out.cell (i := 0) rfl (o := 1) rfl
  clear hx
  cases h1 : goodB vars xss
  · rw [h1] at hcall
    rw [show leastR vars.toNat vars xss = none by unfold leastR; rw [h1]; rfl]
    go_enter Try.func28, Try.ntmps28
    go_wp2_with fail
    refine hcall.out.mono ?_
    rintro e w1 ⟨rfl, hb1⟩
    have hB := Lib.hid (S0.out.grow hb1).below
    clear hcall S0 c0 c1 hb1
    go_wp2_with fail
    go_ret2
    exact ⟨none, 0, rfl, ⟨fun j hj => by simp [listR] at hj, fun c hc => by simp [listR] at hc⟩, by simp [listR], hB.out⟩
  have hg := good_cnf h1
  rw [h1] at hcall
  by_cases h12 : xss.length ≤ 12
  case neg =>
    rw [show leastR vars.toNat vars xss = none by unfold leastR; rw [h1, decide_eq_false h12]; rfl]
    have d12 : decide ((12 : Int) < (xss.length : Int)) = true := decide_eq_true (by omega)
    clear hg hI
    go_enter Try.func28, Try.ntmps28
    go_wp2_with fail
    refine hcall.out.mono ?_
    rintro e w1 ⟨rfl, hb1⟩
    have S1 := Lib.hid (S0.out.grow hb1)
    clear hcall S0 c0 c1 hb1
    have c1 := S1.out.cell (i := 0) rfl (o := 1) rfl
    have hB := Lib.hid S1.out.below
    clear S1
    go_wp2_with fail
    go_ret2
    exact ⟨none, 0, rfl, ⟨fun j hj => by simp [listR] at hj, fun c hc => by simp [listR] at hc⟩, by simp [listR], hB.out⟩
  have d12 : decide ((12 : Int) < (xss.length : Int)) = false := decide_eq_false (by omega)
  obtain ⟨n, rfl⟩ := Int.eq_ofNat_of_zero_le hg.1.1
  rw [show (n : Int).toNat = n by omega]
  have hn : n ≤ 12 := by omega
  have hsat := Lib.hid (fun W hb => satisfiable_any n hn xss hg.2.2.2 (by omega) A cap W (hI.grow hb))
  cases hq : (List.range (2 ^ n)).any (modT xss)
  case true =>
    rw [show leastR n n xss = none by unfold leastR; rw [h1, hq, Bool.not_true, Bool.and_false]; rfl]
    rw [hq] at hsat
    clear hg hI
    go_enter Try.func28, Try.ntmps28
    go_wp2_with fail
    refine hcall.out.mono ?_
    rintro e w1 ⟨rfl, hb1⟩
    have S1 := Lib.hid (S0.out.grow hb1)
    clear hcall S0 c0 c1 hb1
    have c0 := S1.out.cell (i := 0) rfl (o := 0) rfl
    have c1 := S1.out.cell (i := 0) rfl (o := 1) rfl
    go_wp2_with fail
    refine (hsat.out _ S1.out.below).mono ?_
    rintro e w2 ⟨rfl, hb2⟩
    have hB := Lib.hid (S1.out.grow hb2).below
    clear hsat S1 c0 c1 hb2
    go_wp2_with fail
    go_ret2
    exact ⟨none, 0, rfl, ⟨fun j hj => by simp [listR] at hj, fun c hc => by simp [listR] at hc⟩, by simp [listR], hB.out⟩
  case false =>
    rw [show leastR n n xss = leastTo (coreB n xss) xss.length (xss.length + 1) by unfold leastR; rw [h1, hq, decide_eq_true h12]; rfl]
    rw [hq] at hsat
    have hcho := Lib.hid (fun k (hk : k ≤ xss.length) W => choices_any xss.length k (2 ^ xss.length) (by omega) (by omega) (Nat.le_trans (Nat.pow_le_pow_right (by decide) h12) (by decide)) (by rw [goL_up, List.length_map]; exact combs_len _ _ _) W)
    have hic := Lib.hid (fun is (hi : AscN xss.length is) D dc W (h : Below w.heap.size w W) (hy : IntsAt W D (ofN is)) => isCore_any n hn xss hg.2.2.2 is hi.2 (by have := asc_len hi; omega) A D cap dc W (hI.grow h) hy)
    obtain ⟨P, hP⟩ : ∃ P, coreB n xss = P := ⟨_, rfl⟩
    simp only [hP] at hic ⊢
    have hnx := Lib.hid (fun k h h2 => leastTo_next (P := P) (m := xss.length) (k := k) h h2)
    have hfd := Lib.hid (fun k r (hk : k < xss.length + 1) h h2 => leastTo_found (P := P) (m := xss.length) (k := k) (r := r) hk h h2)
    obtain ⟨R, hR⟩ : ∃ R, leastTo P xss.length (xss.length + 1) = R := ⟨_, rfl⟩
    rw [hR] at hfd ⊢
    have hend : Hid (leastTo P xss.length (xss.length + 1) = none → R = none) := fun h => hR.symm.trans h
    have hto0 : Hid (leastTo P xss.length 0 = none) := rfl
    obtain ⟨m, hm⟩ : ∃ m, xss.length = m := ⟨_, rfl⟩
    rw [hm] at S0 c1 hcall hsat hic hnx hfd hend hto0 d12 h12 ⊢
    rw [hm] at hcho
    obtain ⟨hsh, hp⟩ := pow12 h12
    clear hg hI hP hR hm hq
    go_enter Try.func28, Try.ntmps28
    go_wp2_with fail
    refine hcall.out.mono ?_
    rintro e w1 ⟨rfl, hb1⟩
    have S1 := Lib.hid (S0.out.grow hb1)
    clear hcall S0 c0 c1 hb1
    have c0 := S1.out.cell (i := 0) rfl (o := 0) rfl
    have c1 := S1.out.cell (i := 0) rfl (o := 1) rfl
    go_wp2_with fail
    refine (hsat.out _ S1.out.below).mono ?_
    rintro e w2 ⟨rfl, hb2⟩
    have S2 := Lib.hid (S1.out.grow hb2)
    clear hsat S1 c0 c1 hb2
    obtain ⟨N, hN⟩ : ∃ N, 2 ^ m = N := ⟨_, rfl⟩
    rw [hN] at hsh hp hcho
    replace hN := Lib.hid hN
    go_wp2_with fail
    go_loopw [5, 7, 8] (fun vi _ _ wr => ∃ k : Nat, k ≤ m + 1 ∧ vi = .int .i64 k ∧ Hid (leastTo P m k = none) ∧ Hid (Sp w wr [Box w.heap.size 26 #[.int .i64 n, .slice A m cap]])) (fun vi _ _ _ => m + 1 - (intOf vi).toNat)
    case atStart => exact ⟨0, Nat.zero_le _, rfl, hto0, S2⟩
    case round =>
      obtain ⟨k, hk, rfl, hto, HS⟩ := hrel
      clear S2 hto0
      by_cases hlt : k ≤ m
      · have hc3 := Lib.hid (hcho.out k hlt wr)
        have hnx2 := Lib.hid (fun h2 => hnx.out k hto.out h2)
        have hfd2 := Lib.hid (fun r h2 => hfd.out k r (by omega) hto.out h2)
        obtain ⟨GL, hGL⟩ : ∃ GL, goL (m + 1) [] k 1 = GL := ⟨_, rfl⟩
        rw [hGL] at hc3
        rw [goL_up] at hGL
        replace hGL := Lib.hid hGL
        go_wp2_with fail
        rw [hsh]
        refine hc3.out.mono ?_
        rintro e w4 ⟨B, c, cs, rfl, T⟩
        have S4 := Lib.hid (HS.out.seq T)
        clear hc3 T HS
        rw [chF_find] at hnx2 hfd2
        have hcba := Lib.hid (combs_asc (m := m) k 0)
        obtain ⟨cb, hcb⟩ : ∃ cb, combs m k 0 = cb := ⟨_, rfl⟩
        rw [hcb] at hnx2 hfd2 hcba
        have hGL2 := hGL.out
        rw [hcb] at hGL2
        obtain ⟨L, hL⟩ : ∃ L, GL.length = L := ⟨_, rfl⟩
        have hLc : cb.length = L := by rw [← hL, ← hGL2, List.length_map]
        have hLN : L ≤ 4096 := by
          have := combs_len m k 0
          rw [hcb, hLc, Nat.sub_zero] at this
          exact Nat.le_trans this (Nat.le_trans (Nat.pow_le_pow_right (by decide) h12) (by decide))
        rw [hL] at S4 ⊢
        have hGat : Hid (∀ j (hj : j < cb.length), GL[j]? = some (decT cb[j] 0)) := fun j hj => by
          rw [← hGL2, List.getElem?_map, List.getElem?_eq_getElem hj, decT_zero]; rfl
        have hasc : Hid (∀ j (hj : j < cb.length), AscN m cb[j]) := fun j hj => by
          have := hcba.out _ (List.getElem_mem hj)
          exact ⟨this.1, fun i hi => (this.2.1 i hi).2⟩
        have hf0 : Hid ((cb.take 0).find? P = none) := rfl
        have hL0 := Lib.hid hL
        replace hnx2 := Lib.hid hnx2.out
        replace hfd2 := Lib.hid hfd2.out
        replace hLc := Lib.hid hLc
        clear hcb hGL hGL2 hcba hL hto hnx hfd hcho
        go_wp2_with fail
        go_loopw [7, 8, 37] (fun _ _ vi wr => ∃ (j : Nat) (yss : List (List Int)), j ≤ L ∧ vi = .int .i64 j ∧ Hid (yss.length = L) ∧ Hid (∀ i, j ≤ i → yss[i]? = GL[i]?) ∧ Hid ((cb.take j).find? P = none) ∧ Hid (Sp w wr [Rows Ty.int 30 (.slice B L c) cs yss, Box w.heap.size 26 #[.int .i64 n, .slice A m cap]])) (fun _ _ vi _ => L - (intOf vi).toNat)
        case atStart => exact ⟨0, GL, Nat.zero_le _, rfl, hL0, (fun _ _ => rfl), hf0, S4⟩
        case round =>
          obtain ⟨j, yss, hj, rfl, hyl, hyy, hfj, HS⟩ := hrel
          clear S4 hf0 hL0
          by_cases hlt2 : j < L
          · have hjc : j < cb.length := by rw [hLc.out]; exact hlt2
            have hrow := (hyy.out j (Nat.le_refl _)).trans (hGat.out j hjc)
            have hta := hasc.out j hjc
            have hfn := Lib.hid (fun h2 => find_next hjc hfj.out h2)
            have hfh := Lib.hid (fun h2 => (find_here hjc hfj.out h2))
            obtain ⟨t, ht⟩ : ∃ t, cb[j] = t := ⟨_, rfl⟩
            rw [ht] at hrow hta hfn hfh
            obtain ⟨E, ec, Fr, hcsj, -⟩ := HS.out.rows_row (i := 0) rfl hrow
            rw [decT_len] at hcsj
            obtain ⟨rb, rfl, n0⟩ := HS.out.rows_at (i := 0) rfl hyl.out hcsj
            obtain ⟨tl, htl⟩ : ∃ tl, t.length = tl := ⟨_, rfl⟩
            have htm : tl ≤ 12 := by have := asc_len hta; omega
            rw [htl] at hcsj n0
            have S5 : Hid (Sp w wr [Rows Ty.int 30 (.slice (some ⟨rb, 0, none⟩) L c) cs (yss.set j (decT t 0)), Box w.heap.size 26 #[.int .i64 n, .slice A m cap]]) := by
              unfold Hid; rw [set_get hrow]; exact HS.out
            have hjy : Hid (∀ i, (yss.set j (decT t i))[j]? = some (decT t i)) := fun i => by
              rw [List.getElem?_set_self (by rw [hyl.out]; exact hlt2)]
            have hyl2 : Hid (∀ i, (yss.set j (decT t i)).length = L) := fun i => by rw [List.length_set]; exact hyl.out
            have hyy2 : Hid (∀ i q, j + 1 ≤ q → (yss.set j (decT t i))[q]? = GL[q]?) := fun i q hq => by
              rw [List.getElem?_set_ne (by omega)]; exact hyy.out q (by omega)
            have htI : Hid (∀ i (h : i < tl), (0 : Int) ≤ (t[i]'(by rw [htl]; exact h) : Int) ∧ (t[i]'(by rw [htl]; exact h) : Int) ≤ 12) := fun i h => by
              have := hta.2 _ (List.getElem_mem (by rw [htl]; exact h)); omega
            replace hta := Lib.hid hta
            replace htl := Lib.hid htl
            replace hcsj := Lib.hid hcsj
            clear HS hrow hyy hyl ht hfj
            go_wp2_with fail
            clear n0
            go_loopw [8, 43] (fun _ vi wr => ∃ i : Nat, i ≤ tl ∧ vi = .int .i64 i ∧ Hid (Sp w wr [Rows Ty.int 30 (.slice (some ⟨rb, 0, none⟩) L c) cs (yss.set j (decT t i)), Box w.heap.size 26 #[.int .i64 n, .slice A m cap]])) (fun _ vi _ => tl - (intOf vi).toNat)
            case atStart => exact ⟨0, Nat.zero_le _, rfl, S5⟩
            case round =>
              obtain ⟨i, hi, rfl, HS⟩ := hrel
              clear S5
              by_cases hlt3 : i < tl
              · have hit : i < t.length := by rw [htl.out]; exact hlt3
                have hb := htI.out i hlt3
                have hset := decT_set hit
                obtain ⟨b, off, cap2, hcs2, m0, f0, S6⟩ := HS.out.rows_put (i := 0) (k := i) rfl (hjy.out i) (decT_at hit) ((t[i]) : Int) (by unfold I64; omega)
                rw [decT_len, htl.out, hcsj.out] at hcs2
                simp only [Option.some.injEq, Value.slice.injEq] at hcs2
                obtain ⟨rfl, -, rfl⟩ := hcs2
                rw [hset, List.set_set] at S6
                generalize (t[i] : Int) = y at *
                have hw1 : IntKind.i64.wrap (y + 1 - 1) = y := by rw [IntWalk.i64_in _ (by omega)]; omega
                replace S6 := Lib.hid S6
                clear HS hset
                go_wp2_with fail
                go_roundw
                case rel => exact ⟨i + 1, by omega, by go_num, S6⟩
                case measure => simp [intOf]; omega
              · obtain rfl : i = tl := by omega
                obtain ⟨E2, ec2, F2, hcs2, hr2⟩ := HS.out.rows_row (i := 0) rfl (hjy.out i)
                rw [decT_len, htl.out, hcsj.out] at hcs2
                simp only [Option.some.injEq, Value.slice.injEq] at hcs2
                obtain ⟨rfl, -, rfl⟩ := hcs2
                have hall := decT_all t
                rw [htl.out] at hall
                rw [hall] at hr2
                obtain ⟨_, _, e4, hdc, -⟩ := Ty.row_len hr2
                rw [ofN_len, htl.out] at e4 hdc
                simp only [Value.slice.injEq] at e4
                obtain ⟨rfl, -, rfl⟩ := e4
                replace hdc := Lib.hid hdc
                obtain ⟨E3, ec3, e3, hT⟩ := ints_row hr2
                rw [ofN_len, htl.out] at e3
                simp only [Value.slice.injEq] at e3
                obtain ⟨rfl, -, rfl⟩ := e3
                have hcc := hic.out t hta.out E ec _ HS.out.below hT
                rw [htl.out] at hcc
                obtain ⟨q, hq⟩ : ∃ q, P t = q := ⟨_, rfl⟩
                rw [hq] at hcc
                replace hcc := Lib.hid hcc
                replace hq := Lib.hid hq
                replace hT := Lib.hid hT
                have c0 := HS.out.cell (i := 1) rfl (o := 0) rfl
                have c1 := HS.out.cell (i := 1) rfl (o := 1) rfl
                clear hr2 hall
                go_wp2_with fail
                refine hcc.out.mono ?_
                rintro e w6 ⟨rfl, hb6⟩
                have S6 := Lib.hid (HS.out.grow hb6)
                have hT6 := Lib.hid (hT.out.grow hb6)
                clear hcc HS hb6 hT c0 c1
                cases q
                · have hf2 := Lib.hid (hfn.out hq.out)
                  have hy3 := Lib.hid (hyl2.out i)
                  have hy4 := Lib.hid (hyy2.out i)
                  go_wp2_with fail
                  go_roundw
                  case rel => exact ⟨j + 1, _, by omega, by go_num, hy3, hy4, hf2, S6⟩
                  case measure => simp [intOf]; omega
                · obtain rfl : R = some t := hfd2.out t (hfh.out hq.out)
                  have hB := Lib.hid S6.out.below
                  clear S6
                  go_wp2_with fail
                  go_ret2
                  exact ⟨E, ec, by simp only [listR, ofN_len, htl.out]; rfl, hT6.out, by simp only [listR, ofN_len, htl.out]; exact hdc.out, hB.out⟩
          · obtain rfl : j = L := by omega
            have hfA := hfj.out
            rw [← hLc.out, List.take_length] at hfA
            have hto2 := Lib.hid (hnx2.out hfA)
            have S6 := Lib.hid HS.out.tail
            clear HS
            go_wp2_with fail
            go_roundw
            case rel => exact ⟨k + 1, by omega, by go_num, hto2, S6⟩
            case measure => simp [intOf]; omega
      · obtain rfl : k = m + 1 := by omega
        obtain rfl : R = none := hend.out hto.out
        have hB := Lib.hid HS.out.below
        have hlt2 : decide (((m + 1 : Nat) : Int) ≤ (m : Int)) = false := decide_eq_false (by omega)
        clear HS
        go_wp2_with fail
        go_ret2
        exact ⟨none, 0, rfl, ⟨fun j hj => by simp [listR] at hj, fun c hc => by simp [listR] at hc⟩, by simp [listR], hB.out⟩
end Go.Proofs.Ytmikconjhmhekaa

/- Plain facts on cores: what the law of cores asks. -/
namespace Go.Proofs.Ytmikconjhmhekaa
open Go.RowKit

theorem chF_some {P : List Nat → Bool} {m k : Nat} {r : List Nat} (h : chF P m k [] 0 = some r) : P r = true ∧ AscN m r ∧ r.length = k := by
  rw [chF_find] at h
  have h1 := List.find?_some h
  have h2 := combs_asc (m := m) k 0 r (List.mem_of_find?_eq_some h)
  exact ⟨h1, ⟨h2.1, fun i hi => (h2.2.1 i hi).2⟩, h2.2.2⟩
theorem chF_none {P : List Nat → Bool} {m k : Nat} (h : chF P m k [] 0 = none) {l : List Nat} (ha : AscN m l) (hl : l.length = k) : P l = false := by
  rw [chF_find, List.find?_eq_none] at h
  subst hl
  have := h l (asc_combs l 0 ha.1 fun i hi => ⟨Nat.zero_le _, ha.2 i hi⟩)
  simpa using this
theorem leastTo_none {P : List Nat → Bool} {m : Nat} : ∀ {N : Nat}, leastTo P m N = none → ∀ k, k < N → chF P m k [] 0 = none
  | 0, _, k, hk => by omega
  | N + 1, h, k, hk => by
    unfold leastTo at h
    rw [List.findSome?_eq_none_iff] at h
    exact h k (List.mem_range.2 hk)
theorem leastTo_some {P : List Nat → Bool} {m : Nat} : ∀ {N : Nat} {r : List Nat}, leastTo P m N = some r → ∃ k, k < N ∧ chF P m k [] 0 = some r ∧ leastTo P m k = none
  | 0, r, h => by simp [leastTo] at h
  | N + 1, r, h => by
    cases hn : leastTo P m N with
    | some r' =>
      obtain ⟨k, h1, h2, h3⟩ := leastTo_some hn
      have := leastTo_found (N := N + 1) (by omega : k < N + 1) h3 h2
      rw [h] at this
      cases this
      exact ⟨k, by omega, h2, h3⟩
    | none =>
      refine ⟨N, by omega, ?_, hn⟩
      unfold leastTo at h hn
      rw [List.range_succ, List.findSome?_append, hn] at h
      simpa using h
/-- The least core: a core, and none is shorter. -/
theorem least_min {P : List Nat → Bool} {m N : Nat} {r : List Nat} (h : leastTo P m N = some r) : P r = true ∧ AscN m r ∧ ∀ l, AscN m l → P l = true → r.length ≤ l.length := by
  obtain ⟨k, hk, h1, h2⟩ := leastTo_some h
  obtain ⟨a1, a2, a3⟩ := chF_some h1
  refine ⟨a1, a2, fun l hl hp => ?_⟩
  rcases Nat.lt_or_ge l.length r.length with hlt | hge
  · have := chF_none (leastTo_none h2 l.length (by omega)) hl rfl
    rw [this] at hp
    cases hp
  · exact hge
theorem erase_len {is : List Nat} {k : Nat} (hk : k < is.length) : (is.eraseIdx k).length + 1 = is.length := by
  rw [List.length_eraseIdx_of_lt hk]; omega
theorem least_minB {n m N : Nat} {xss : List (List Int)} {r : List Nat} (h : leastTo (coreB n xss) m N = some r) : minB n xss r = true := by
  obtain ⟨-, h2, h3⟩ := least_min h
  unfold minB
  rw [List.all_eq_true]
  intro k hk
  have hk2 := List.mem_range.1 hk
  cases hc : coreB n xss (r.eraseIdx k)
  · rfl
  · have := h3 _ (h2.erase k) hc
    have := erase_len hk2
    omega
theorem coreL_core {n : Nat} {xss : List (List Int)} (h : coreB n xss (List.range xss.length) = true) : coreB n xss (coreL n xss) = true := coreGo_core _ _ h
theorem coreL_asc (n : Nat) (xss : List (List Int)) : AscN xss.length (coreL n xss) := (range_asc _).sub (coreGo_sub (coreB n xss) (List.range xss.length) [])
theorem coreL_min (n : Nat) (xss : List (List Int)) : minB n xss (coreL n xss) = true := by
  unfold minB
  rw [List.all_eq_true]
  intro k hk
  have := coreGo_min (P := coreB n xss) (fun a b h ha => core_mono h ha) (List.range xss.length) [] (fun j hj => by simp at hj) k (List.mem_range.1 hk)
  unfold coreL
  rw [this]; rfl
theorem ris_of_asc {m : Nat} {is : List Nat} (h : AscN m is) : risB m (ofN is) = true := by
  unfold risB rOkTo
  rw [List.all_eq_true]
  intro i hi
  have hil : i < (ofN is).length := List.mem_range.1 hi
  have hi2 : i < is.length := by rwa [ofN_len] at hil
  have hb := h.2 _ (List.getElem_mem hi2)
  have hin : inB (ofN is)[i] 0 ((m : Int) - 1) = true := by
    rw [ofN_get hi2, inB_true]; omega
  cases i with
  | zero => rw [rOk_zero _ _ hil]; exact hin
  | succ i =>
    rw [rOk_succ _ _ _ hil, hin, Bool.true_and, ofN_get hi2, ofN_get (by omega)]
    have := List.pairwise_iff_getElem.1 h.1 i (i + 1) (by omega) hi2 (by omega)
    exact decide_eq_true (by omega)
end Go.Proofs.Ytmikconjhmhekaa
