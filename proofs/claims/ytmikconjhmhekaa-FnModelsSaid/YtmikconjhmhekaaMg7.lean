/- Lemmas and contracts for a law, put together out of several texts: MdC MdD MdE MdF MdP MdG MdH MdI MdJ MdS. -/
import Derived.Test.YtmikconjhmhekaaMg6
import Derived.Test.YtmikconjhmhekaaMg3
/- Contracts: the least model, satisfiability and implied clauses, in the reference. -/
namespace Go.Proofs.Ytmikconjhmhekaa
open Go.RowKit

theorem first_at {p : Nat → Bool} {k N : Nat} (hk : k < N) (h0 : (List.range k).any p = false) (h1 : p k = true) : idxP p (List.range N) = (k : Int) := by
  unfold idxP
  have ha : (List.range N).any p = true := List.any_eq_true.2 ⟨k, List.mem_range.2 hk, h1⟩
  rw [if_pos ha]
  have hl : k < (List.range N).length := by simpa using hk
  have : (List.range N).findIdx p = k := (List.findIdx_eq hl).2 ⟨by simpa using h1, fun j hj => by
    rw [List.any_eq_false] at h0
    have := h0 j (List.mem_range.2 hj)
    simpa using this⟩
  rw [this]
theorem first_no {p : Nat → Bool} {N : Nat} (h0 : (List.range N).any p = false) : idxP p (List.range N) = -1 := by
  unfold idxP
  rw [if_neg (by rw [h0]; decide)]
theorem rany_next {p : Nat → Bool} {k : Nat} : (List.range (k + 1)).any p = ((List.range k).any p || p k) := by
  simp [List.range_succ, List.any_append]
theorem rany_yes {p : Nat → Bool} {k N : Nat} (hk : k < N) (h : p k = true) : (List.range N).any p = true := List.any_eq_true.2 ⟨k, List.mem_range.2 hk, h⟩

set_option maxRecDepth 100000 in
set_option maxHeartbeats 4000000 in
theorem l5First_any (n : Nat) (hn : n ≤ 12) (xss : List (List Int)) (hc : ∀ c ∈ xss, ClS c) (hl : xss.length ≤ 1000000) (A : Option Addr) (cap : Nat) (w : World) (hx : ClsAt w A xss) :
    Calls Try.prog 191 #[.int .i64 n, .slice A xss.length cap] w fun e w' => e = .returned (.int .i64 (idxP (modT xss) (List.range (2 ^ n)))) ∧ Below w.heap.size w w' := by
  obtain ⟨hsh, hp⟩ := pow12 hn
  have hcall := Lib.hid (fun b (hb : b < 4096) W (h : Below w.heap.size w W) => l5All_any xss hc hl A cap b (Nat.lt_trans hb (by decide)) W (hx.grow h))
  clear hc hx
  generalize 2 ^ n = N at *
  go_enter Try.func191, Try.ntmps191
  go_wp2_with fail
  go_loopw [5] (fun vi wr => ∃ k : Nat, k ≤ N ∧ vi = .int .i64 k ∧ Hid ((List.range k).any (modT xss) = false) ∧ Hid (Below w.heap.size w wr)) (fun vi _ => N - (intOf vi).toNat)
  case atStart => exact ⟨0, Nat.zero_le _, rfl, rfl, bb _⟩
  case round =>
    obtain ⟨k, hk, rfl, hno, HB⟩ := hrel
    by_cases hlt : k < N
    · have d0 : decide ((k : Int) < (N : Int)) = true := decide_eq_true (Int.ofNat_lt.2 hlt)
      have hk4 : k < 4096 := Nat.lt_of_lt_of_le hlt hp
      have hall := Lib.hid (hcall.out k hk4 wr HB.out)
      have hat := Lib.hid (fun h => first_at hlt hno.out h)
      have hnx := Lib.hid (rany_next (p := modT xss) (k := k))
      rw [hno.out] at hnx
      generalize modT xss k = q at *
      go_wp2_with fail
      refine hall.out.mono ?_
      rintro e w3 ⟨rfl, hb3⟩
      have HB2 := Lib.hid (btr HB.out hb3)
      clear HB hall hb3
      cases q
      · go_wp2_with fail
        go_roundw
        case rel => exact ⟨k + 1, by omega, by go_num, hnx, HB2⟩
        case measure => simp [intOf]; omega
      · have hz := hat.out rfl
        clear hat hnx
        go_wp2_with fail
        go_ret
        exact ⟨ret_int hz.symm, HB2.out⟩
    · obtain rfl : k = N := by omega
      have d0 : decide ((k : Int) < (k : Int)) = false := by simp
      have hz := first_no hno.out
      go_wp2_with fail
      go_ret
      exact ⟨ret_int hz.symm, HB.out⟩

set_option maxHeartbeats 4000000 in
theorem l5Sat_any (n : Nat) (hn : n ≤ 12) (xss : List (List Int)) (hc : ∀ c ∈ xss, ClS c) (hl : xss.length ≤ 1000000) (A : Option Addr) (cap : Nat) (w : World) (hx : ClsAt w A xss) :
    Calls Try.prog 96 #[.agg #[.int .i64 n, .slice A xss.length cap]] w fun e w' => e = .returned (.bool ((List.range (2 ^ n)).any (modT xss))) ∧ Below w.heap.size w w' := by
  have S0 := (Sp.start w).alloc_box #[.int .i64 n, .slice A xss.length cap] 26
  have c0 := S0.cell (i := 0) rfl (o := 0) rfl
  have c1 := S0.cell (i := 0) rfl (o := 1) rfl
  have hcall := Lib.hid (l5First_any n hn xss hc hl A cap _ (hx.grow S0.below))
  have hge := idxP_ge (modT xss) (List.range (2 ^ n))
  replace S0 := Lib.hid S0
  clear hc hx
  generalize (List.range (2 ^ n)).any (modT xss) = q at *
  generalize idxP (modT xss) (List.range (2 ^ n)) = z at *
  go_enter Try.func96, Try.ntmps96
  go_wp2_with fail
  refine hcall.out.mono ?_
  rintro e w1 ⟨rfl, hb1⟩
  have hB := Lib.hid (S0.out.grow hb1).below
  clear S0 hcall hb1 c0 c1
  subst hge
  go_wp2_with fail
  go_ret
  exact ⟨rfl, hB.out⟩

set_option maxRecDepth 100000 in
set_option maxHeartbeats 4000000 in
theorem l5Implies_any (n : Nat) (hn : n ≤ 12) (xss : List (List Int)) (hc : ∀ c ∈ xss, ClS c) (hl : xss.length ≤ 1000000) (A : Option Addr) (cap : Nat) (d : List Int) (hd : ClS d) (D : Option Addr) (dc : Nat) (w : World) (hx : ClsAt w A xss) (hy : IntsAt w D d) :
    Calls Try.prog 97 #[.agg #[.int .i64 n, .slice A xss.length cap], .slice D d.length dc] w fun e w' => e = .returned (.bool (!((List.range (2 ^ n)).any fun b => !clT d b && modT xss b))) ∧ Below w.heap.size w w' := by
  obtain ⟨hsh, hp⟩ := pow12 hn
  have S0 := (Sp.start w).alloc_box #[.int .i64 n, .slice A xss.length cap] 26
  have hcall := Lib.hid (fun b (hb : b < 4096) W (h : Below w.heap.size w W) => l5All_any xss hc hl A cap b (Nat.lt_trans hb (by decide)) W (hx.grow h))
  have htr := Lib.hid (fun b (hb : b < 4096) W (h : Below w.heap.size w W) => l5True_any d hd.1 (Nat.le_trans hd.2 (by omega)) D dc b (Nat.lt_trans hb (by decide)) W (hy.grow h))
  replace S0 := Lib.hid S0
  clear hc hx hd hy
  generalize 2 ^ n = N at *
  go_enter Try.func97, Try.ntmps97
  go_wp2_with fail
  go_loopw [5] (fun vi wr => ∃ k : Nat, k ≤ N ∧ vi = .int .i64 k ∧ Hid ((List.range k).any (fun b => !clT d b && modT xss b) = false) ∧ Hid (Sp w wr [Box w.heap.size 26 #[.int .i64 n, .slice A xss.length cap]])) (fun vi _ => N - (intOf vi).toNat)
  case atStart => exact ⟨0, Nat.zero_le _, rfl, rfl, S0⟩
  case round =>
    obtain ⟨k, hk, rfl, hno, HS⟩ := hrel
    clear S0
    have c0 := HS.out.cell (i := 0) rfl (o := 0) rfl
    by_cases hlt : k < N
    · have d0 : decide ((k : Int) < (N : Int)) = true := decide_eq_true (Int.ofNat_lt.2 hlt)
      have hk4 : k < 4096 := Nat.lt_of_lt_of_le hlt hp
      have h1 := Lib.hid (htr.out k hk4 wr HS.out.below)
      have h2 := Lib.hid (fun W h => hcall.out k hk4 W h)
      have hat := Lib.hid (fun h => rany_yes (p := fun b => !clT d b && modT xss b) hlt h)
      have hnx := Lib.hid (rany_next (p := fun b => !clT d b && modT xss b) (k := k))
      rw [hno.out] at hnx
      generalize modT xss k = q at *
      generalize clT d k = r at *
      go_wp2_with fail
      refine h1.out.mono ?_
      rintro e w3 ⟨rfl, hb3⟩
      have S3 := Lib.hid (HS.out.grow hb3)
      have c1 := S3.out.cell (i := 0) rfl (o := 1) rfl
      clear HS h1 hb3 c0
      cases r
      · go_wp2_with fail
        refine (h2.out _ S3.out.below).mono ?_
        rintro e w4 ⟨rfl, hb4⟩
        have S4 := Lib.hid (S3.out.grow hb4)
        clear S3 h2 hb4 c1
        cases q
        · go_wp2_with fail
          go_roundw
          case rel => exact ⟨k + 1, by omega, by go_num, hnx, S4⟩
          case measure => simp [intOf]; omega
        · have hz := hat.out rfl
          have hB := Lib.hid S4.out.below
          clear hat hnx S4
          go_wp2_with fail
          go_ret
          exact ⟨ret_bool (by rw [hz]; rfl), hB.out⟩
      · clear c1
        go_wp2_with fail
        go_roundw
        case rel => exact ⟨k + 1, by omega, by go_num, hnx, S3⟩
        case measure => simp [intOf]; omega
    · obtain rfl : k = N := by omega
      have d0 : decide ((k : Int) < (k : Int)) = false := by simp
      have hB := Lib.hid HS.out.below
      have hz := hno.out
      clear HS
      go_wp2_with fail
      go_ret
      exact ⟨ret_bool (by rw [hz]; rfl), hB.out⟩
end Go.Proofs.Ytmikconjhmhekaa

/- Contracts: counted and listed models, and implied clauses, of a Cnf in the reference. -/
namespace Go.Proofs.Ytmikconjhmhekaa
open Go.RowKit

/-- Numbers that are told, and whether they are. -/
def IAns (w : World) (ok : Bool) (zs : List Int) (e : Ending) (w' : World) : Prop :=
  ∃ B cap, e = .returned (.tuple #[.slice B zs.length cap, .bool ok]) ∧ IntsAt w' B zs ∧ Below w.heap.size w w'
def allN (p : Nat → Bool) (k : Nat) : List Int := ((List.range k).filter p).map fun (m : Nat) => (m : Int)
theorem allN_no {p : Nat → Bool} {k : Nat} (h : p k = false) : allN p (k + 1) = allN p k := by simp [allN, List.range_succ, List.filter_append, h]
theorem allN_yes {p : Nat → Bool} {k : Nat} (h : p k = true) : allN p (k + 1) = allN p k ++ [(k : Int)] := by simp [allN, List.range_succ, List.filter_append, h]
theorem allN_len (p : Nat → Bool) (k : Nat) : (allN p k).length = cntP p k := by simp [allN, cntP]
theorem allN_ok (p : Nat → Bool) {k : Nat} (hk : k ≤ 4096) : ∀ x ∈ allN p k, I64 x := by
  intro x hx
  unfold allN at hx
  rw [List.mem_map] at hx
  obtain ⟨m, hm, rfl⟩ := hx
  have := List.mem_range.1 (List.mem_filter.1 hm).1
  unfold I64; omega

set_option maxHeartbeats 4000000 in
theorem specCountCnf_any (vars : Int) (v : Value) (xss : List (List Int)) (F : List Nat) (w : World) (hx : (Ty.slice Ty.int).row false w v xss F) :
    Calls Try.prog 12 #[.agg #[.int .i64 vars, v]] w fun e w' => e = .returned (.tuple #[.int .i64 (if goodB vars xss then (cntP (modT xss) (2 ^ vars.toNat) : Int) else 0), .bool (goodB vars xss)]) ∧ Below w.heap.size w w' := by
  obtain ⟨A, cap, rfl, hI⟩ := cls_row hx
  have S0 := (Sp.start w).alloc_box #[.int .i64 vars, .slice A xss.length cap] 26
  have hgood := Lib.hid (l2Good_any vars _ xss F _ (Ty.row_below hx S0.below (Ty.row_lt hx)))
  have c0 := S0.cell (i := 0) rfl (o := 0) rfl
  have c1 := S0.cell (i := 0) rfl (o := 1) rfl
  replace S0 := Lib.hid S0
  clear hx
  cases h1 : goodB vars xss
  · rw [h1] at hgood
    go_enter Try.func12, Try.ntmps12
    go_wp2_with fail
    refine hgood.out.mono ?_
    rintro e w1 ⟨rfl, hb1⟩
    have hB := Lib.hid (S0.out.grow hb1).below
    clear S0 hgood hb1 c0 c1
    go_wp2_with fail
    go_ret2
    exact ⟨rfl, hB.out⟩
  · have hg := good_cnf h1
    rw [h1] at hgood
    obtain ⟨n, rfl⟩ := Int.eq_ofNat_of_zero_le hg.1.1
    have hmo := Lib.hid (fun W h => l5Models_any n (by omega) xss hg.2.2.2 (by omega) A cap W (hI.grow h))
    rw [if_pos rfl, show (n : Int).toNat = n by omega]
    clear hg hI h1
    generalize cntP (modT xss) (2 ^ n) = z at *
    go_enter Try.func12, Try.ntmps12
    go_wp2_with fail
    refine hgood.out.mono ?_
    rintro e w1 ⟨rfl, hb1⟩
    have S1 := Lib.hid (S0.out.grow hb1)
    clear S0 hgood hb1 c0 c1
    have c0 := S1.out.cell (i := 0) rfl (o := 0) rfl
    have c1 := S1.out.cell (i := 0) rfl (o := 1) rfl
    go_wp2_with fail
    refine (hmo.out _ S1.out.below).mono ?_
    rintro e w2 ⟨rfl, hb2⟩
    have hB := Lib.hid (S1.out.grow hb2).below
    clear S1 hmo hb2 c0 c1
    go_wp2_with fail
    go_ret2
    exact ⟨rfl, hB.out⟩

set_option maxRecDepth 100000 in
set_option maxHeartbeats 8000000 in
theorem specAllModels_any (vars : Int) (v : Value) (xss : List (List Int)) (F : List Nat) (w : World) (hx : (Ty.slice Ty.int).row false w v xss F) :
    Calls Try.prog 14 #[.agg #[.int .i64 vars, v]] w (IAns w (goodB vars xss && decide (cntP (modT xss) (2 ^ vars.toNat) ≤ 300)) (if goodB vars xss && decide (cntP (modT xss) (2 ^ vars.toNat) ≤ 300) then allN (modT xss) (2 ^ vars.toNat) else [])) := by
  obtain ⟨A, cap, rfl, hI⟩ := cls_row hx
  have S0 := ((Sp.start w).alloc_box #[.int .i64 vars, .slice A xss.length cap] 26).own_made 3 1
  simp only [World.size_alloc] at S0
  have hgood := Lib.hid (l2Good_any vars _ xss F _ (Ty.row_below hx S0.below (Ty.row_lt hx)))
  have c0 := S0.cell (i := 1) rfl (o := 0) rfl
  have c1 := S0.cell (i := 1) rfl (o := 1) rfl
  have S0' : Hid (Sp w _ [Own 3 1 (.slice (some ⟨w.heap.size + 1, 0, none⟩) ([] : List Int).length 0) ([] : List Int).length (([] : List Int).map (.int .i64)), Box w.heap.size 26 #[.int .i64 vars, .slice A xss.length cap]]) := S0
  clear hx S0
  obtain ⟨i0, hi0, hy0, hy1, hy2⟩ := info_parts infoInt
  cases h1 : goodB vars xss
  · rw [h1] at hgood
    go_enter Try.func14, Try.ntmps14
    go_wp2_with fail
    refine hgood.out.mono ?_
    rintro e w1 ⟨rfl, hb1⟩
    have hB := Lib.hid (S0'.out.grow hb1).below
    clear S0' hgood hb1 c0 c1
    go_wp2_with fail
    go_ret2
    exact ⟨_, _, rfl, ⟨fun j hj => by simp at hj, fun c hc => by simp at hc⟩, hB.out⟩
  · have hg := good_cnf h1
    rw [h1] at hgood
    obtain ⟨n, rfl⟩ := Int.eq_ofNat_of_zero_le hg.1.1
    have hn12 : n ≤ 12 := by omega
    obtain ⟨hsh, hp⟩ := pow12 hn12
    have hmo := Lib.hid (fun W h => l5Models_any n hn12 xss hg.2.2.2 (by omega) A cap W (hI.grow h))
    have hcall := Lib.hid (fun b (hb : b < 4096) W (h : Below w.heap.size w W) => l5All_any xss hg.2.2.2 (by omega) A cap b (Nat.lt_trans hb (by decide)) W (hI.grow h))
    have hcl := Lib.hid (cntP_le (modT xss))
    have hlen := Lib.hid (allN_len (modT xss))
    have hok := Lib.hid (fun k h => allN_ok (modT xss) (k := k) h)
    rw [show (n : Int).toNat = n by omega, Bool.true_and]
    clear hg hI h1
    generalize 2 ^ n = N at *
    obtain ⟨z, hz⟩ : ∃ z, cntP (modT xss) N = z := ⟨_, rfl⟩
    rw [hz] at hmo ⊢
    have hzN : z ≤ 4096 := by have := hcl.out N; omega
    replace hz := Lib.hid hz
    by_cases hlt3 : (300 : Int) < (z : Int)
    · have d1 : decide ((300 : Int) < (z : Int)) = true := decide_eq_true hlt3
      have d2 : decide (z ≤ 300) = false := decide_eq_false (by omega)
      rw [d2]
      clear d2
      go_enter Try.func14, Try.ntmps14
      go_wp2_with fail
      refine hgood.out.mono ?_
      rintro e w1 ⟨rfl, hb1⟩
      have S1 := Lib.hid (S0'.out.grow hb1)
      clear S0' hgood hb1 c0 c1
      have c0 := S1.out.cell (i := 1) rfl (o := 0) rfl
      have c1 := S1.out.cell (i := 1) rfl (o := 1) rfl
      go_wp2_with fail
      refine (hmo.out _ S1.out.below).mono ?_
      rintro e w2 ⟨rfl, hb2⟩
      have hB := Lib.hid (S1.out.grow hb2).below
      clear S1 hmo hb2 c0 c1
      go_wp2_with fail
      go_ret2
      exact ⟨_, _, rfl, ⟨fun j hj => by simp at hj, fun c hc => by simp at hc⟩, hB.out⟩
    · have d1 : decide ((300 : Int) < (z : Int)) = false := decide_eq_false hlt3
      have d2 : decide (z ≤ 300) = true := decide_eq_true (by omega)
      rw [d2, if_pos rfl]
      clear d2
      go_enter Try.func14, Try.ntmps14
      go_wp2_with fail
      refine hgood.out.mono ?_
      rintro e w1 ⟨rfl, hb1⟩
      have S1 := Lib.hid (S0'.out.grow hb1)
      clear S0' hgood hb1 c0 c1
      have c0 := S1.out.cell (i := 1) rfl (o := 0) rfl
      have c1 := S1.out.cell (i := 1) rfl (o := 1) rfl
      go_wp2_with fail
      refine (hmo.out _ S1.out.below).mono ?_
      rintro e w2 ⟨rfl, hb2⟩
      have S2 := Lib.hid (S1.out.grow hb2)
      clear S1 hmo hb2 c0 c1
      go_wp2_with fail
      go_loopw [4, 5] (fun vo vi wr => ∃ (k : Nat) (B : Option Addr) (cc : Nat), k ≤ N ∧ vi = .int .i64 k ∧ vo = .slice B (allN (modT xss) k).length cc ∧ Hid (Sp w wr [Own 3 1 (.slice B (allN (modT xss) k).length cc) (allN (modT xss) k).length ((allN (modT xss) k).map (.int .i64)), Box w.heap.size 26 #[.int .i64 n, .slice A xss.length cap]])) (fun _ vi _ => N - (intOf vi).toNat)
      case atStart => exact ⟨0, _, _, Nat.zero_le _, rfl, rfl, S2⟩
      case round =>
        obtain ⟨k, B, cc, hk, rfl, rfl, HS⟩ := hrel
        clear S2
        have c0 := HS.out.cell (i := 1) rfl (o := 0) rfl
        have c1 := HS.out.cell (i := 1) rfl (o := 1) rfl
        have hal := hlen.out k
        have hck := hcl.out k
        by_cases hlt : k < N
        · have d0 : decide ((k : Int) < (N : Int)) = true := decide_eq_true (Int.ofNat_lt.2 hlt)
          have hk4 : k < 4096 := Nat.lt_of_lt_of_le hlt hp
          have hall := Lib.hid (hcall.out k hk4 wr HS.out.below)
          have hno := Lib.hid (fun h => allN_no (p := modT xss) (k := k) h)
          have hyes := Lib.hid (fun h => allN_yes (p := modT xss) (k := k) h)
          have hl4 : (allN (modT xss) k).length ≤ 4096 := by omega
          replace hal := Lib.hid hal
          generalize modT xss k = q at *
          go_wp2_with fail
          refine hall.out.mono ?_
          rintro e w3 ⟨rfl, hb3⟩
          have S3 := Lib.hid (HS.out.grow hb3)
          clear HS hall hb3 c0 c1 hal hck
          cases q
          · have hn2 := Lib.hid (hno.out rfl)
            go_wp2_with fail
            go_roundw
            case rel => exact ⟨k + 1, B, cc, by omega, by go_num, by rw [hn2.out], by rw [hn2.out]; exact S3⟩
            case measure => simp [intOf]; omega
          · have hn2 := Lib.hid (hyes.out rfl)
            generalize allN (modT xss) k = ts at *
            have S4 := S3.out.alloc_box #[.int .i64 (k : Int)] 3
            have kB := S4.cell (i := 0) rfl (o := 0) rfl
            replace S4 := Lib.hid S4
            clear S3
            go_wp2_with (at_builtin; refine wpList_append_src rfl _ _ rfl Try.underlying30 hi0 hy0 hy1 hy2 rfl (by decide) _ _ _ rfl (S4.out.own (i := 1) rfl) _ 1 1 [.int .i64 (k : Int)] rfl (Src.one kB) (by simp [Value.oneCell']) ?c3 ?c4 ?_)
            case c3 => unfold maxLen; omega
            case c4 => omega
            intro vY wY hownY hgY hatY
            have S5 := (S4.out.own_push (i := 1) rfl (bb _) hownY hgY (by simpa using hatY)).tail
            obtain ⟨aY, cY, rfl⟩ := own_slice hownY
            have hl2 : ts.length + 1 = (ts ++ [(k : Int)]).length := by simp
            have S6 : Hid (Sp w wY [Own 3 1 (.slice aY (ts ++ [(k : Int)]).length cY) (ts ++ [(k : Int)]).length ((ts ++ [(k : Int)]).map (.int .i64)), Box w.heap.size 26 #[.int .i64 n, .slice A xss.length cap]]) := by
              unfold Hid; rw [← hl2, List.map_append]; exact S5
            clear S4 S5 kB hownY hgY hatY
            rw [hl2]
            replace hl2 := Lib.hid hl2
            rw [← hn2.out] at S6 ⊢
            clear hn2 hl2 hl4
            go_wp2_with fail
            go_roundw
            case rel => exact ⟨k + 1, aY, cY, by omega, by go_num, rfl, S6⟩
            case measure => simp [intOf]; omega
        · obtain rfl : k = N := by omega
          have d0 : decide ((k : Int) < (k : Int)) = false := by simp
          obtain ⟨G, hr, -, -⟩ := own_row (HS.out.own (i := 0) rfl) (hok.out k (by omega))
          obtain ⟨B', c', e', hT⟩ := ints_row (Ty.row_down hr)
          cases e'
          have hB := Lib.hid HS.out.below
          replace hT := Lib.hid hT
          clear HS hr hal hck
          go_wp2_with fail
          go_ret2
          exact ⟨_, _, rfl, hT.out, hB.out⟩
end Go.Proofs.Ytmikconjhmhekaa

/- Contract: an implied clause of a Cnf in the reference. -/
namespace Go.Proofs.Ytmikconjhmhekaa
open Go.RowKit

/-- A clause is true for all models. -/
def impB (n : Nat) (xss : List (List Int)) (d : List Int) : Bool := !((List.range (2 ^ n)).any fun b => !clT d b && modT xss b)
theorem ints_lone {w : World} {b : Nat} {z : Int} (h : w.cell? ⟨b, 0, none⟩ = some (.int .i64 z)) (hz : I64 z) : IntsAt w (some ⟨b, 0, none⟩) [z] :=
  ⟨fun j hj => by
    obtain rfl : j = 0 := by simpa using hj
    exact ⟨b, 0, rfl, h⟩, fun c hc => by
    obtain rfl : c = z := by simpa using hc
    exact hz⟩

set_option maxRecDepth 100000 in
set_option maxHeartbeats 4000000 in
theorem specImplies_any (vars : Int) (v : Value) (xss : List (List Int)) (d : List Int) (D : Option Addr) (dc : Nat) (F G : List Nat) (w : World) (hx : (Ty.slice Ty.int).row false w v xss F) (hy : Ty.int.row false w (.slice D d.length dc) d G) :
    Calls Try.prog 23 #[.agg #[.int .i64 vars, v], .slice D d.length dc] w fun e w' => e = .returned (.tuple #[.bool (goodB vars xss && clauseB vars d && impB vars.toNat xss d), .bool (goodB vars xss && clauseB vars d)]) ∧ Below w.heap.size w w' := by
  obtain ⟨A, cap, rfl, hI⟩ := cls_row hx
  have S0 := (Sp.start w).alloc_box #[.int .i64 vars, .slice A xss.length cap] 26
  have hgood := Lib.hid (l2Good_any vars _ xss F _ (Ty.row_below hx S0.below (Ty.row_lt hx)))
  have hcla := Lib.hid (fun W (h : Below w.heap.size w W) => l2Clause_any vars _ d G W (Ty.row_below hy h (Ty.row_lt hy)))
  have c0 := S0.cell (i := 0) rfl (o := 0) rfl
  have c1 := S0.cell (i := 0) rfl (o := 1) rfl
  replace S0 := Lib.hid S0
  have hyH := Lib.hid hy
  clear hx hy
  cases h1 : goodB vars xss
  · rw [h1] at hgood
    go_enter Try.func23, Try.ntmps23
    go_wp2_with fail
    refine hgood.out.mono ?_
    rintro e w1 ⟨rfl, hb1⟩
    have hB := Lib.hid (S0.out.grow hb1).below
    clear S0 hgood hb1 c0 c1
    go_wp2_with fail
    go_ret2
    exact ⟨rfl, hB.out⟩
  · rw [h1] at hgood
    cases h2 : clauseB vars d
    · rw [h2] at hcla
      go_enter Try.func23, Try.ntmps23
      go_wp2_with fail
      refine hgood.out.mono ?_
      rintro e w1 ⟨rfl, hb1⟩
      have S1 := Lib.hid (S0.out.grow hb1)
      clear S0 hgood hb1 c0 c1
      have c0 := S1.out.cell (i := 0) rfl (o := 0) rfl
      go_wp2_with fail
      refine (hcla.out _ S1.out.below).mono ?_
      rintro e w2 ⟨rfl, hb2⟩
      have hB := Lib.hid (S1.out.grow hb2).below
      clear S1 hcla hb2 c0
      go_wp2_with fail
      go_ret2
      exact ⟨rfl, hB.out⟩
    · have hg := good_cnf h1
      rw [h2] at hcla
      obtain ⟨n, rfl⟩ := Int.eq_ofNat_of_zero_le hg.1.1
      obtain ⟨D', dc', e', hT⟩ := ints_row hyH.out
      cases e'
      have hcd := clause_s h2
      have him := Lib.hid (fun W (h : Below w.heap.size w W) => l5Implies_any n (by omega) xss hg.2.2.2 (by omega) A cap d hcd D dc W (hI.grow h) (hT.grow h))
      rw [show (n : Int).toNat = n by omega]
      have hz : impB n xss d = !((List.range (2 ^ n)).any fun b => !clT d b && modT xss b) := rfl
      rw [← hz] at him
      clear hg hI hT hcd h1 h2 hz
      generalize impB n xss d = q at *
      go_enter Try.func23, Try.ntmps23
      go_wp2_with fail
      refine hgood.out.mono ?_
      rintro e w1 ⟨rfl, hb1⟩
      have S1 := Lib.hid (S0.out.grow hb1)
      clear S0 hgood hb1 c0 c1
      have c0 := S1.out.cell (i := 0) rfl (o := 0) rfl
      go_wp2_with fail
      refine (hcla.out _ S1.out.below).mono ?_
      rintro e w2 ⟨rfl, hb2⟩
      have S2 := Lib.hid (S1.out.grow hb2)
      clear S1 hcla hb2 c0
      have c0 := S2.out.cell (i := 0) rfl (o := 0) rfl
      have c1 := S2.out.cell (i := 0) rfl (o := 1) rfl
      go_wp2_with fail
      refine (him.out _ S2.out.below).mono ?_
      rintro e w3 ⟨rfl, hb3⟩
      have hB := Lib.hid (S2.out.grow hb3).below
      clear S2 him hb3 c0 c1
      go_wp2_with fail
      go_ret2
      exact ⟨rfl, hB.out⟩
end Go.Proofs.Ytmikconjhmhekaa

/- Contract: the backbone of a Cnf in the reference. -/
namespace Go.Proofs.Ytmikconjhmhekaa
open Go.RowKit

/-- The literals of the first variables that are true for all models. -/
def boneTo (n : Nat) (xss : List (List Int)) : Nat → List Int
  | 0 => []
  | k + 1 => boneTo n xss k ++ ((if impB n xss [(k : Int) + 1] then [(k : Int) + 1] else []) ++ (if impB n xss [-((k : Int) + 1)] then [-((k : Int) + 1)] else []))
theorem bone_len (n : Nat) (xss : List (List Int)) : ∀ k, (boneTo n xss k).length ≤ 2 * k
  | 0 => by simp [boneTo]
  | k + 1 => by
    have := bone_len n xss k
    unfold boneTo
    rw [List.length_append, List.length_append]
    split <;> split <;> simp <;> omega
theorem bone_ok (n : Nat) (xss : List (List Int)) : ∀ k, k ≤ 1000 → ∀ x ∈ boneTo n xss k, I64 x
  | 0, _ => by simp [boneTo]
  | k + 1, h => by
    have := bone_ok n xss k (by omega)
    unfold boneTo
    intro x hx
    rcases List.mem_append.1 hx with hx | hx
    · exact this x hx
    · rcases List.mem_append.1 hx with hx | hx
      · split at hx
        · obtain rfl : x = (k : Int) + 1 := by simpa using hx
          unfold I64; omega
        · simp at hx
      · split at hx
        · obtain rfl : x = -((k : Int) + 1) := by simpa using hx
          unfold I64; omega
        · simp at hx
theorem cls_lone {z : Int} (h0 : z ≠ 0) (h1 : -1000 ≤ z) (h2 : z ≤ 1000) : ClS [z] := ⟨fun l hl => by
  obtain rfl : l = z := by simpa using hl
  exact ⟨h0, h1, h2⟩, by simp⟩

set_option maxRecDepth 100000 in
set_option maxHeartbeats 8000000 in
theorem specBackbone_any (vars : Int) (v : Value) (xss : List (List Int)) (F : List Nat) (w : World) (hx : (Ty.slice Ty.int).row false w v xss F) :
    Calls Try.prog 19 #[.agg #[.int .i64 vars, v]] w (IAns w (goodB vars xss && (List.range (2 ^ vars.toNat)).any (modT xss)) (if goodB vars xss && (List.range (2 ^ vars.toNat)).any (modT xss) then boneTo vars.toNat xss vars.toNat else [])) := by
  obtain ⟨A, cap, rfl, hI⟩ := cls_row hx
  have S0 := ((Sp.start w).alloc_box #[.int .i64 vars, .slice A xss.length cap] 26).own_made 3 1
  simp only [World.size_alloc] at S0
  have hgood := Lib.hid (l2Good_any vars _ xss F _ (Ty.row_below hx S0.below (Ty.row_lt hx)))
  have c0 := S0.cell (i := 1) rfl (o := 0) rfl
  have c1 := S0.cell (i := 1) rfl (o := 1) rfl
  have S0' : Hid (Sp w _ [Own 3 1 (.slice (some ⟨w.heap.size + 1, 0, none⟩) ([] : List Int).length 0) ([] : List Int).length (([] : List Int).map (.int .i64)), Box w.heap.size 26 #[.int .i64 vars, .slice A xss.length cap]]) := S0
  clear hx S0
  obtain ⟨i0, hi0, hy0, hy1, hy2⟩ := info_parts infoInt
  cases h1 : goodB vars xss
  · rw [h1] at hgood
    go_enter Try.func19, Try.ntmps19
    go_wp2_with fail
    refine hgood.out.mono ?_
    rintro e w1 ⟨rfl, hb1⟩
    have hB := Lib.hid (S0'.out.grow hb1).below
    clear S0' hgood hb1 c0 c1
    go_wp2_with fail
    go_ret2
    exact ⟨_, _, rfl, ⟨fun j hj => by simp at hj, fun c hc => by simp at hc⟩, hB.out⟩
  · have hg := good_cnf h1
    rw [h1] at hgood
    obtain ⟨n, rfl⟩ := Int.eq_ofNat_of_zero_le hg.1.1
    have hn12 : n ≤ 12 := by omega
    have hsat := Lib.hid (fun W h => l5Sat_any n hn12 xss hg.2.2.2 (by omega) A cap W (hI.grow h))
    have him := Lib.hid (fun (z : Int) (h0 : z ≠ 0) (h1 : -1000 ≤ z) (h2 : z ≤ 1000) b W (h : Below w.heap.size w W) (hz : IntsAt W (some ⟨b, 0, none⟩) [z]) => l5Implies_any n hn12 xss hg.2.2.2 (by omega) A cap [z] (cls_lone h0 h1 h2) (some ⟨b, 0, none⟩) 1 W (hI.grow h) hz)
    have hdef : ∀ d, (!((List.range (2 ^ n)).any fun b => !clT d b && modT xss b)) = impB n xss d := fun d => rfl
    simp only [hdef] at him
    have hbl := Lib.hid (bone_len n xss)
    have hbo := Lib.hid (bone_ok n xss)
    have hbs : Hid (∀ k, boneTo n xss (k + 1) = boneTo n xss k ++ ((if impB n xss [(k : Int) + 1] then [(k : Int) + 1] else []) ++ (if impB n xss [-((k : Int) + 1)] then [-((k : Int) + 1)] else []))) := fun k => rfl
    rw [show (n : Int).toNat = n by omega, Bool.true_and]
    clear hg hI h1 hdef
    generalize (List.range (2 ^ n)).any (modT xss) = q at *
    cases q
    · go_enter Try.func19, Try.ntmps19
      go_wp2_with fail
      refine hgood.out.mono ?_
      rintro e w1 ⟨rfl, hb1⟩
      have S1 := Lib.hid (S0'.out.grow hb1)
      clear S0' hgood hb1 c0 c1
      have c0 := S1.out.cell (i := 1) rfl (o := 0) rfl
      have c1 := S1.out.cell (i := 1) rfl (o := 1) rfl
      go_wp2_with fail
      refine (hsat.out _ S1.out.below).mono ?_
      rintro e w2 ⟨rfl, hb2⟩
      have hB := Lib.hid (S1.out.grow hb2).below
      clear S1 hsat hb2 c0 c1
      go_wp2_with fail
      go_ret2
      exact ⟨_, _, rfl, ⟨fun j hj => by simp at hj, fun c hc => by simp at hc⟩, hB.out⟩
    · rw [if_pos rfl]
      go_enter Try.func19, Try.ntmps19
      go_wp2_with fail
      refine hgood.out.mono ?_
      rintro e w1 ⟨rfl, hb1⟩
      have S1 := Lib.hid (S0'.out.grow hb1)
      clear S0' hgood hb1 c0 c1
      have c0 := S1.out.cell (i := 1) rfl (o := 0) rfl
      have c1 := S1.out.cell (i := 1) rfl (o := 1) rfl
      go_wp2_with fail
      refine (hsat.out _ S1.out.below).mono ?_
      rintro e w2 ⟨rfl, hb2⟩
      have S2 := Lib.hid (S1.out.grow hb2)
      clear S1 hsat hb2 c0 c1
      go_wp2_with fail
      go_loopw [4, 5] (fun vo vi wr => ∃ (k : Nat) (z : Int) (ts : List Int) (B : Option Addr) (cc : Nat), k ≤ n ∧ 1 ≤ z ∧ z ≤ 13 ∧ Hid ((k : Int) + 1 = z) ∧ vi = .int .i64 z ∧ vo = .slice B ts.length cc ∧ Hid (ts = boneTo n xss k) ∧ Hid (Sp w wr [Own 3 1 (.slice B ts.length cc) ts.length (ts.map (.int .i64)), Box w.heap.size 26 #[.int .i64 n, .slice A xss.length cap]])) (fun _ vi _ => 20 - (intOf vi).toNat)
      case atStart => exact ⟨0, 1, [], _, _, Nat.zero_le _, by decide, by decide, rfl, rfl, rfl, rfl, S2⟩
      case round =>
        obtain ⟨k, z, ts, B, cc, hk, hz1, hz13, hkz, rfl, rfl, hts, HS⟩ := hrel
        clear S2
        have c0 := HS.out.cell (i := 1) rfl (o := 0) rfl
        have hlt24 : ts.length ≤ 26 := by have := hbl.out k; rw [hts.out]; omega
        by_cases hlt : z ≤ (n : Int)
        · have d0 : decide (z ≤ (n : Int)) = true := decide_eq_true hlt
          have hw1 : IntKind.i64.wrap (-z) = -z := IntWalk.i64_in _ (by omega)
          have hw2 : IntKind.i64.wrap (z + 1) = z + 1 := IntWalk.i64_in _ (by omega)
          have hbk := hbs.out k
          rw [hkz.out, ← hts.out] at hbk
          have i1 := Lib.hid (him.out z (by omega) (by omega) (by omega))
          have i2 := Lib.hid (him.out (-z) (by omega) (by omega) (by omega))
          generalize impB n xss [z] = q1 at *
          generalize impB n xss [-z] = q2 at *
          replace hbk := Lib.hid hbk
          clear c0 hts
          have S3 := HS.out.alloc_box #[.int .i64 (z)] 3
          have him3 := Lib.hid (i1.out _ _ (S3.below) (ints_lone (S3.cell (i := 0) rfl (o := 0) rfl) (by unfold I64; omega)))
          have c0 := HS.out.cell (i := 1) rfl (o := 0) rfl
          have c1 := HS.out.cell (i := 1) rfl (o := 1) rfl
          replace S3 := Lib.hid S3
          go_wp2_with fail
          refine him3.out.mono ?_
          rintro e v3 ⟨rfl, hb3⟩
          have T3 := Lib.hid ((S3.out.grow hb3).tail)
          clear HS S3 him3 hb3 c0 c1
          go_upto_if 25 with fail
          go_cut [4] (fun vo wx => ∃ (us : List Int) (B : Option Addr) (cc : Nat), vo = .slice B us.length cc ∧ us.length ≤ 27 ∧ Hid (us = ts ++ (if q1 then [z] else [])) ∧ Hid (Sp w wx [Own 3 1 (.slice B us.length cc) us.length (us.map (.int .i64)), Box w.heap.size 26 #[.int .i64 n, .slice A xss.length cap]]))
          case first =>
            cases q1
            · go_wp2_with fail
              go_meet
              exact ⟨ts, B, cc, rfl, by omega, by simp [Hid], T3⟩
            · as_aux_lemma =>
                have S8 := T3.out.alloc_box #[.int .i64 (z)] 3
                have kB := S8.cell (i := 0) rfl (o := 0) rfl
                replace S8 := Lib.hid S8
                clear T3
                go_wp2_with (at_builtin; refine wpList_append_src rfl _ _ rfl Try.underlying30 hi0 hy0 hy1 hy2 rfl (by decide) _ _ _ rfl (S8.out.own (i := 1) rfl) _ 1 1 [.int .i64 (z)] rfl (Src.one kB) (by simp [Value.oneCell']) ?c3 ?c4 ?_)
                case c3 => unfold maxLen; omega
                case c4 => omega
                intro vY wY hownY hgY hatY
                have S9 := (S8.out.own_push (i := 1) rfl (bb _) hownY hgY (by simpa using hatY)).tail
                obtain ⟨aY, cY, rfl⟩ := own_slice hownY
                have hl2 : ts.length + 1 = (ts ++ [z]).length := by simp
                have SA : Hid (Sp w wY [Own 3 1 (.slice aY (ts ++ [z]).length cY) (ts ++ [z]).length ((ts ++ [z]).map (.int .i64)), Box w.heap.size 26 #[.int .i64 n, .slice A xss.length cap]]) := by
                  unfold Hid; rw [← hl2, List.map_append]; exact S9
                clear S8 S9 kB hownY hgY hatY
                rw [hl2]
                replace hl2 := Lib.hid hl2
                have hl27 : (ts ++ [z]).length ≤ 27 := by rw [← hl2.out]; omega
                go_wp2_with fail
                go_meet
                exact ⟨ts ++ [z], aY, cY, rfl, hl27, rfl, SA⟩
          case rest =>
          clear T3
          obtain ⟨us, B, cc, rfl, hul, hus, HS⟩ := hcut
          have S4 := HS.out.alloc_box #[.int .i64 (-z)] 3
          have him4 := Lib.hid (i2.out _ _ (S4.below) (ints_lone (S4.cell (i := 0) rfl (o := 0) rfl) (by unfold I64; omega)))
          have c0 := HS.out.cell (i := 1) rfl (o := 0) rfl
          have c1 := HS.out.cell (i := 1) rfl (o := 1) rfl
          replace S4 := Lib.hid S4
          go_wp2_with fail
          refine him4.out.mono ?_
          rintro e v4 ⟨rfl, hb4⟩
          have T4 := Lib.hid ((S4.out.grow hb4).tail)
          clear HS S4 him4 hb4 c0 c1
          have hkz2 : Hid (((k + 1 : Nat) : Int) + 1 = z + 1) := by unfold Hid; have := hkz.out; omega
          have hk1 : k + 1 ≤ n := by have := hkz.out; omega
          go_upto_if 34 with fail
          cases q2
          · have hfin : Hid (us = boneTo n xss (k + 1)) := by unfold Hid; rw [hbk.out, hus.out]; simp
            clear hbk hus hkz
            go_wp2_with fail
            go_roundw
            case rel => exact ⟨k + 1, z + 1, us, B, cc, hk1, by omega, by omega, hkz2, rfl, rfl, hfin, T4⟩
            case measure => simp [intOf]; omega
          · have hfin : Hid (us ++ [-z] = boneTo n xss (k + 1)) := by unfold Hid; rw [hbk.out, hus.out]; simp
            clear hbk hus hkz
            as_aux_lemma =>
              have S8 := T4.out.alloc_box #[.int .i64 (-z)] 3
              have kB := S8.cell (i := 0) rfl (o := 0) rfl
              replace S8 := Lib.hid S8
              clear T4
              go_wp2_with (at_builtin; refine wpList_append_src rfl _ _ rfl Try.underlying30 hi0 hy0 hy1 hy2 rfl (by decide) _ _ _ rfl (S8.out.own (i := 1) rfl) _ 1 1 [.int .i64 (-z)] rfl (Src.one kB) (by simp [Value.oneCell']) ?c3 ?c4 ?_)
              case c3 => unfold maxLen; omega
              case c4 => omega
              intro vY wY hownY hgY hatY
              have S9 := (S8.out.own_push (i := 1) rfl (bb _) hownY hgY (by simpa using hatY)).tail
              obtain ⟨aY, cY, rfl⟩ := own_slice hownY
              have hl2 : us.length + 1 = (us ++ [-z]).length := by simp
              have SA : Hid (Sp w wY [Own 3 1 (.slice aY (us ++ [-z]).length cY) (us ++ [-z]).length ((us ++ [-z]).map (.int .i64)), Box w.heap.size 26 #[.int .i64 n, .slice A xss.length cap]]) := by
                unfold Hid; rw [← hl2, List.map_append]; exact S9
              clear S8 S9 kB hownY hgY hatY
              rw [hl2]
              replace hl2 := Lib.hid hl2
              go_wp2_with fail
              go_roundw
              case rel => exact ⟨k + 1, z + 1, us ++ [-z], aY, cY, hk1, by omega, by omega, hkz2, rfl, rfl, hfin, SA⟩
              case measure => simp [intOf]; omega
        · have d0 : decide (z ≤ (n : Int)) = false := decide_eq_false hlt
          obtain rfl : k = n := by have := hkz.out; omega
          have hok : ∀ x ∈ ts, I64 x := by rw [hts.out]; exact hbo.out k (by omega)
          obtain ⟨G, hr, -, -⟩ := own_row (HS.out.own (i := 0) rfl) hok
          obtain ⟨B', c', e', hT⟩ := ints_row (Ty.row_down hr)
          cases e'
          have hB := Lib.hid HS.out.below
          replace hT := Lib.hid hT
          clear HS hr hok
          go_wp2_with fail
          go_ret2
          rw [← hts.out]
          exact ⟨_, _, rfl, hT.out, hB.out⟩
end Go.Proofs.Ytmikconjhmhekaa

/- Plain facts on models, backbones and implied clauses. -/
namespace Go.Proofs.Ytmikconjhmhekaa
open Go.RowKit

theorem bone_next (n : Nat) (xss : List (List Int)) (k : Nat) : boneTo n xss (k + 1) = boneTo n xss k ++ ((if impB n xss [(k : Int) + 1] then [(k : Int) + 1] else []) ++ (if impB n xss [-((k : Int) + 1)] then [-((k : Int) + 1)] else [])) := rfl
theorem bone_mem (n : Nat) (xss : List (List Int)) : ∀ (k : Nat) (x : Int), x ∈ boneTo n xss k ↔ (x ≠ 0 ∧ x.natAbs ≤ k ∧ impB n xss [x] = true)
  | 0, x => by
    simp only [boneTo, List.not_mem_nil, false_iff]
    omega
  | k + 1, x => by
    rw [bone_next, List.mem_append, List.mem_append, bone_mem n xss k x]
    have a1 : x ∈ (if impB n xss [(k : Int) + 1] then [(k : Int) + 1] else []) ↔ x = (k : Int) + 1 ∧ impB n xss [x] = true := by
      split
      · rename_i h
        rw [List.mem_singleton]
        exact ⟨fun e => ⟨e, by rw [e]; exact h⟩, fun e => e.1⟩
      · rename_i h
        simp only [List.not_mem_nil, false_iff]
        rintro ⟨rfl, h2⟩
        exact h h2
    have a2 : x ∈ (if impB n xss [-((k : Int) + 1)] then [-((k : Int) + 1)] else []) ↔ x = -((k : Int) + 1) ∧ impB n xss [x] = true := by
      split
      · rename_i h
        rw [List.mem_singleton]
        exact ⟨fun e => ⟨e, by rw [e]; exact h⟩, fun e => e.1⟩
      · rename_i h
        simp only [List.not_mem_nil, false_iff]
        rintro ⟨rfl, h2⟩
        exact h h2
    rw [a1, a2]
    constructor
    · rintro (⟨h1, h2, h3⟩ | ⟨h1, h3⟩ | ⟨h1, h3⟩)
      · exact ⟨h1, by omega, h3⟩
      · exact ⟨by omega, by omega, h3⟩
      · exact ⟨by omega, by omega, h3⟩
    · rintro ⟨h1, h2, h3⟩
      by_cases h : x.natAbs ≤ k
      · exact .inl ⟨h1, h, h3⟩
      · by_cases hx : x = (k : Int) + 1
        · exact .inr (.inl ⟨hx, h3⟩)
        · exact .inr (.inr ⟨by omega, h3⟩)
theorem bone_contains {n : Nat} {xss : List (List Int)} {x : Int} (h0 : x ≠ 0) (h1 : x.natAbs ≤ n) : (boneTo n xss n).contains x = impB n xss [x] := by
  rw [Bool.eq_iff_iff, List.contains_iff_mem, bone_mem]
  exact ⟨fun h => h.2.2, fun h => ⟨h0, h1, h⟩⟩
theorem cl_one (x : Int) (b : Nat) : clT [x] b = litT b x := by simp [clT]
theorem lit_pos (k b : Nat) : litT b ((k : Int) + 1) = b.testBit k := by
  unfold litT
  rw [show ((k : Int) + 1).natAbs - 1 = k by omega, decide_eq_true (by omega : (0 : Int) < (k : Int) + 1)]
  simp
theorem lit_neg (k b : Nat) : litT b (-((k : Int) + 1)) = !b.testBit k := by
  unfold litT
  rw [show (-((k : Int) + 1)).natAbs - 1 = k by omega, decide_eq_false (by omega : ¬ (0 : Int) < -((k : Int) + 1))]
  cases b.testBit k <;> rfl
/-- The models in their order. -/
def mods (p : Nat → Bool) (N : Nat) : List Nat := (List.range N).filter p
theorem allN_eq (p : Nat → Bool) (N : Nat) : allN p N = (mods p N).map fun (m : Nat) => (m : Int) := rfl
theorem imp_mods (n : Nat) (xss : List (List Int)) (d : List Int) : impB n xss d = (mods (modT xss) (2 ^ n)).all (clT d) := by
  rw [Bool.eq_iff_iff]
  unfold impB mods
  rw [Bool.not_eq_true', List.any_eq_false, List.all_eq_true]
  constructor
  · intro h b hb
    have h1 := List.mem_filter.1 hb
    have h2 := h b h1.1
    rw [h1.2, Bool.and_true] at h2
    simpa using h2
  · intro h b hb
    cases hm : modT xss b
    · simp
    · rw [h b (List.mem_filter.2 ⟨hb, hm⟩)]
      simp
theorem bone_yes {n : Nat} {xss : List (List Int)} {k : Nat} (hk : k < n) : (boneTo n xss n).contains ((k : Int) + 1) = (mods (modT xss) (2 ^ n)).all fun b => b.testBit k := by
  rw [bone_contains (by omega) (by omega), imp_mods]
  congr 1
  funext b
  rw [cl_one, lit_pos]
theorem bone_no {n : Nat} {xss : List (List Int)} {k : Nat} (hk : k < n) : (boneTo n xss n).contains (-((k : Int) + 1)) = (mods (modT xss) (2 ^ n)).all fun b => !b.testBit k := by
  rw [bone_contains (by omega) (by omega), imp_mods]
  congr 1
  funext b
  rw [cl_one, lit_neg]
theorem mod_snoc (xss : List (List Int)) (d : List Int) (b : Nat) : modT (xss ++ [d]) b = (modT xss b && clT d b) := by simp [modT, List.all_append]
theorem equiv_imp (n : Nat) (xss : List (List Int)) (d : List Int) : ((List.range (2 ^ n)).all fun b => modT xss b == modT (xss ++ [d]) b) = impB n xss d := by
  rw [Bool.eq_iff_iff]
  unfold impB
  rw [Bool.not_eq_true', List.any_eq_false, List.all_eq_true]
  constructor
  · intro h b hb
    have h2 := h b hb
    rw [mod_snoc] at h2
    cases hm : modT xss b <;> cases hc : clT d b <;> simp_all
  · intro h b hb
    have h2 := h b hb
    rw [mod_snoc]
    cases hm : modT xss b <;> cases hc : clT d b <;> simp_all
theorem good_snoc {vars : Int} {xss : List (List Int)} {d : List Int} (h : goodB vars xss = true) (hc : clauseB vars d = true) (hl : xss.length < 60) : goodB vars (xss ++ [d]) = true := by
  unfold goodB at *
  simp only [Bool.and_eq_true, decide_eq_true_eq] at *
  refine ⟨⟨h.1.1, by simp; omega⟩, ?_⟩
  rw [List.all_append, h.2]
  simp [hc]
theorem all_first {p : Nat → Bool} {N : Nat} (h : (List.range N).any p = true) : ∃ m, (allN p N)[0]? = some (m : Int) ∧ idxP p (List.range N) = (m : Int) := by
  have hf : idxP p (List.range N) = ((List.range N).findIdx p : Nat) := by unfold idxP; rw [if_pos h]
  have hlt : (List.range N).findIdx p < (List.range N).length := List.findIdx_lt_length_of_exists (by simpa using List.any_eq_true.1 h)
  refine ⟨(List.range N).findIdx p, ?_, hf⟩
  have hfd : (List.range N).find? p = some ((List.range N).findIdx p) := by
    rw [List.find?_eq_some_iff_getElem]
    refine ⟨?_, _, hlt, by simp, fun j hj => ?_⟩
    · have := List.findIdx_getElem (w := hlt)
      simpa using this
    · have := List.not_of_lt_findIdx (xs := List.range N) (p := p) (i := j) hj
      simpa using this
  unfold allN
  rw [List.getElem?_map, ← List.head?_eq_getElem?, List.head?_filter, hfd]
  rfl
theorem cnt_pos {p : Nat → Bool} {N : Nat} : decide (0 < cntP p N) = (List.range N).any p := by
  rw [Bool.eq_iff_iff, decide_eq_true_eq, List.any_eq_true]
  unfold cntP
  rw [List.length_pos_iff_exists_mem]
  exact ⟨fun ⟨m, hm⟩ => ⟨m, (List.mem_filter.1 hm).1, (List.mem_filter.1 hm).2⟩, fun ⟨m, h1, h2⟩ => ⟨m, List.mem_filter.2 ⟨h1, h2⟩⟩⟩
/-- What the law's loop over the models has told of a bit. -/
theorem all_take_next {p : Nat → Bool} {ms : List Nat} {i : Nat} (hi : i < ms.length) : (ms.take (i + 1)).all p = ((ms.take i).all p && p ms[i]) := by
  rw [List.take_succ_eq_append_getElem hi, List.all_append]
  simp
end Go.Proofs.Ytmikconjhmhekaa

/- Contracts: counted models and the first one, in the program. -/
namespace Go.Proofs.Ytmikconjhmhekaa
open Go.RowKit

set_option maxRecDepth 100000 in
set_option maxHeartbeats 4000000 in
theorem countCnfModels_any (vars : Int) (v : Value) (xss : List (List Int)) (F : List Nat) (w : World) (hx : (Ty.slice Ty.int).row false w v xss F) (h1 : goodB vars xss = true) :
    Calls Try.prog 11 #[.agg #[.int .i64 vars, v]] w fun e w' => e = .returned (.tuple #[.int .i64 (cntP (modT xss) (2 ^ vars.toNat)), .bool true]) ∧ Below w.heap.size w w' := by
  obtain ⟨A, cap, rfl, hI⟩ := cls_row hx
  have hg := good_cnf h1
  obtain ⟨n, rfl⟩ := Int.eq_ofNat_of_zero_le hg.1.1
  rw [show (n : Int).toNat = n by omega]
  have hn : n ≤ 12 := by omega
  have hp := (pow12 hn).2
  have S0 := (Sp.start w).alloc_box #[.int .i64 n, .slice A xss.length cap] 26
  have hcall := Lib.hid (implIsCnf_any n _ xss F _ (Ty.row_below hx S0.below (Ty.row_lt hx)))
  have eg : Enter1 84 := enters_of Try.func84 (by kernel_rfl) rfl
  have hmod := Lib.hid (fun W (S : Sp w W [Box w.heap.size 26 #[.int .i64 n, .slice A xss.length cap]]) =>
    models_any (cb := #[.pointer (some ⟨W.heap.size, 0, none⟩)]) eg n hn xss hg.2.2.2 (by omega) A cap (W.alloc (.cells #[.int .i64 0] 3)) [W.heap.size] (by simp)
    (fun k V => Sp w V [Box W.heap.size 3 #[.int .i64 (cntP (modT xss) k)], Box w.heap.size 26 #[.int .i64 n, .slice A xss.length cap]])
    (S.alloc_box #[.int .i64 0] 3) (fun k V V' h hb => h.grow hb) (fun k V h => hI.grow h.below)
    (fun k V hm h => by rw [cntP_no hm]; exact h)
    (fun k V hk hm h => by
      have f0 := h.frozen (i := 0) rfl 0
      have c0 := h.cell (i := 0) rfl (o := 0) rfl
      have hcl := cntP_le (modT xss) k
      have hcn := Lib.hid (cntP_yes hm)
      have S1 := Lib.hid (h.store (i := 0) rfl 0 (.int .i64 ((cntP (modT xss) k : Int) + 1)))
      have hch := Lib.hid ((Chg.refl [W.heap.size] V).set (p := ⟨W.heap.size, 0, none⟩) (by simp) (.int .i64 ((cntP (modT xss) k : Int) + 1)))
      have hlt : k < 4096 := Nat.lt_of_lt_of_le hk hp
      generalize cntP (modT xss) k = c at *
      have hwc : IntKind.i64.wrap ((c : Int) + 1) = (c : Int) + 1 := IntWalk.i64_in _ (by omega)
      clear h hcl hk hm
      show Calls Try.prog 84 #[.int .i64 k, .pointer (some ⟨W.heap.size, 0, none⟩)] V _
      go_enter Try.func84, Try.ntmps84
      go_wp2_with fail
      go_ret
      exact ⟨true, rfl, hch.out, by rw [if_pos rfl, hcn.out]; exact S1.out⟩))
  replace S0 := Lib.hid S0
  have c0 := S0.out.cell (i := 0) rfl (o := 0) rfl
  have c1 := S0.out.cell (i := 0) rfl (o := 1) rfl
  rw [h1] at hcall
  clear eg hx hI hg h1
  generalize 2 ^ n = N at *
  go_enter Try.func11, Try.ntmps11
  go_wp2_with fail
  refine hcall.out.mono ?_
  rintro e w1 ⟨rfl, hb1⟩
  have S1 := Lib.hid (S0.out.grow hb1)
  have SA := S1.out.alloc_box #[.int .i64 0] 3
  have d0 := SA.cell (i := 1) rfl (o := 0) rfl
  have d1 := SA.cell (i := 1) rfl (o := 1) rfl
  clear SA
  have hm2 := Lib.hid (hmod.out _ S1.out)
  clear hcall hmod S0 S1 c0 c1 hb1
  go_wp2_with fail
  refine hm2.out.mono ?_
  rintro e w2 ⟨rfl, S2⟩
  have d2 := S2.cell (i := 0) rfl (o := 0) rfl
  have hB := S2.below
  clear hm2 S2 d0 d1
  go_wp2_with fail
  go_ret2
  exact ⟨rfl, hB⟩

set_option maxHeartbeats 2000000 in
theorem countCnfNo_any (vars : Int) (v : Value) (xss : List (List Int)) (F : List Nat) (w : World) (hx : (Ty.slice Ty.int).row false w v xss F) (h1 : goodB vars xss = false) :
    Calls Try.prog 11 #[.agg #[.int .i64 vars, v]] w fun e w' => e = .returned (.tuple #[.int .i64 0, .bool false]) ∧ Below w.heap.size w w' := by
  obtain ⟨A, cap, rfl, hI⟩ := cls_row hx
  have S0 := (Sp.start w).alloc_box #[.int .i64 vars, .slice A xss.length cap] 26
  have hcall := Lib.hid (implIsCnf_any vars _ xss F _ (Ty.row_below hx S0.below (Ty.row_lt hx)))
  replace S0 := Lib.hid S0
  have c0 := S0.out.cell (i := 0) rfl (o := 0) rfl
  have c1 := S0.out.cell (i := 0) rfl (o := 1) rfl
  rw [h1] at hcall
  clear hx hI h1
  go_enter Try.func11, Try.ntmps11
  go_wp2_with fail
  refine hcall.out.mono ?_
  rintro e w1 ⟨rfl, hb1⟩
  have hB := Lib.hid (S0.out.grow hb1).below
  clear hcall S0 c0 c1 hb1
  go_wp2_with fail
  go_ret2
  exact ⟨rfl, hB.out⟩

theorem idx_next {p : Nat → Bool} {k : Nat} (h : p k = false) : idxP p (List.range (k + 1)) = idxP p (List.range k) := by
  unfold idxP
  rw [rany_next, h, Bool.or_false]
  cases ha : (List.range k).any p
  · rfl
  · rw [if_pos rfl, if_pos rfl, List.range_succ, List.findIdx_append, if_pos (List.findIdx_lt_length_of_exists (by simpa using List.any_eq_true.1 ha))]

set_option maxRecDepth 100000 in
set_option maxHeartbeats 4000000 in
theorem firstModel_any (vars : Int) (v : Value) (xss : List (List Int)) (F : List Nat) (w : World) (hx : (Ty.slice Ty.int).row false w v xss F) :
    Calls Try.prog 16 #[.agg #[.int .i64 vars, v]] w fun e w' => e = .returned (.tuple #[.int .i64 (if goodB vars xss && (List.range (2 ^ vars.toNat)).any (modT xss) then idxP (modT xss) (List.range (2 ^ vars.toNat)) else 0), .bool (goodB vars xss && (List.range (2 ^ vars.toNat)).any (modT xss))]) ∧ Below w.heap.size w w' := by
  obtain ⟨A, cap, rfl, hI⟩ := cls_row hx
  have S0 := (Sp.start w).alloc_box #[.int .i64 vars, .slice A xss.length cap] 26
  have hcall := Lib.hid (implIsCnf_any vars _ xss F _ (Ty.row_below hx S0.below (Ty.row_lt hx)))
  replace S0 := Lib.hid S0
  have c0 := S0.out.cell (i := 0) rfl (o := 0) rfl
  have c1 := S0.out.cell (i := 0) rfl (o := 1) rfl
  clear hx
  cases h1 : goodB vars xss
  · rw [h1] at hcall
    go_enter Try.func16, Try.ntmps16
    go_wp2_with fail
    refine hcall.out.mono ?_
    rintro e w1 ⟨rfl, hb1⟩
    have hB := Lib.hid (S0.out.grow hb1).below
    clear hcall S0 c0 c1 hb1
    go_wp2_with fail
    go_ret2
    exact ⟨rfl, hB.out⟩
  have hg := good_cnf h1
  obtain ⟨n, rfl⟩ := Int.eq_ofNat_of_zero_le hg.1.1
  rw [show (n : Int).toNat = n by omega]
  have hn : n ≤ 12 := by omega
  have hp := (pow12 hn).2
  have eg : Enter1 89 := enters_of Try.func89 (by kernel_rfl) rfl
  have hmod := Lib.hid (fun W (S : Sp w W [Box w.heap.size 26 #[.int .i64 n, .slice A xss.length cap]]) =>
    models_any (cb := #[.pointer (some ⟨W.heap.size, 0, none⟩)]) eg n hn xss hg.2.2.2 (by omega) A cap (W.alloc (.cells #[.int .i64 (-1)] 3)) [W.heap.size] (by simp)
    (fun k V => (k < 2 ^ n → (List.range k).any (modT xss) = false) ∧ Sp w V [Box W.heap.size 3 #[.int .i64 (idxP (modT xss) (List.range k))], Box w.heap.size 26 #[.int .i64 n, .slice A xss.length cap]])
    ⟨fun _ => rfl, S.alloc_box #[.int .i64 (-1)] 3⟩ (fun k V V' h hb => ⟨h.1, h.2.grow hb⟩) (fun k V h => hI.grow h.2.below)
    (fun k V hm h => ⟨fun hk => by rw [rany_next, h.1 (by omega), hm]; rfl, by rw [idx_next hm]; exact h.2⟩)
    (fun k V hk hm hh => by
      obtain ⟨hno, h⟩ := hh
      have f0 := h.frozen (i := 0) rfl 0
      have c0 := h.cell (i := 0) rfl (o := 0) rfl
      have hid := Lib.hid (first_at hk (hno hk) hm)
      have S1 := Lib.hid (h.store (i := 0) rfl 0 (.int .i64 k))
      have hch := Lib.hid ((Chg.refl [W.heap.size] V).set (p := ⟨W.heap.size, 0, none⟩) (by simp) (.int .i64 k))
      generalize idxP (modT xss) (List.range k) = z0 at *
      clear h hk hm hno
      show Calls Try.prog 89 #[.int .i64 k, .pointer (some ⟨W.heap.size, 0, none⟩)] V _
      go_enter Try.func89, Try.ntmps89
      go_wp2_with fail
      go_ret
      exact ⟨false, rfl, hch.out, ⟨fun hlt => absurd hlt (Nat.lt_irrefl _), by rw [hid.out]; exact S1.out⟩⟩))
  have hge := idxP_ge (modT xss) (List.range (2 ^ n))
  have hno := Lib.hid (fun h => first_no (p := modT xss) (N := 2 ^ n) h)
  rw [h1] at hcall
  rw [Bool.true_and]
  clear eg hI hg h1
  generalize (List.range (2 ^ n)).any (modT xss) = q at *
  generalize idxP (modT xss) (List.range (2 ^ n)) = z at *
  generalize 2 ^ n = N at *
  go_enter Try.func16, Try.ntmps16
  go_wp2_with fail
  refine hcall.out.mono ?_
  rintro e w1 ⟨rfl, hb1⟩
  have S1 := Lib.hid (S0.out.grow hb1)
  have SA := S1.out.alloc_box #[.int .i64 (-1)] 3
  have d0 := SA.cell (i := 1) rfl (o := 0) rfl
  have d1 := SA.cell (i := 1) rfl (o := 1) rfl
  clear SA
  have hm2 := Lib.hid (hmod.out _ S1.out)
  clear hcall hmod S0 S1 c0 c1 hb1
  go_wp2_with fail
  refine hm2.out.mono ?_
  rintro e w2 ⟨rfl, -, S2⟩
  have d2 := S2.cell (i := 0) rfl (o := 0) rfl
  have hB := S2.below
  clear hm2 S2 d0 d1
  cases q
  · have hz : z < 0 := by have := of_decide_eq_false hge; omega
    have dz : decide (z < 0) = true := decide_eq_true hz
    go_wp2_with fail
    go_ret2
    exact ⟨rfl, hB⟩
  · have hz : ¬ z < 0 := by have := of_decide_eq_true hge; omega
    have dz : decide (z < 0) = false := decide_eq_false hz
    go_wp2_with fail
    go_ret2
    exact ⟨rfl, hB⟩
end Go.Proofs.Ytmikconjhmhekaa

/- Contract: a loop over all models with a closure that may turn blocks that it made. -/
namespace Go.Proofs.Ytmikconjhmhekaa
open Go.RowKit

set_option maxRecDepth 100000 in
set_option maxHeartbeats 4000000 in
theorem models2_any {g : FuncId} {cb : Array Value} (eg : Enter1 g) (n : Nat) (hn : n ≤ 12) (xss : List (List Int)) (hc : ∀ c ∈ xss, ClS c) (hl : xss.length ≤ 1000000) (A : Option Addr) (cap : Nat) (w : World)
    (P : Nat → World → Prop) (h0 : P 0 w) (hgrow : ∀ k w w', P k w → Below w.heap.size w w' → P k w') (hcls : ∀ k w, P k w → ClsAt w A xss)
    (hnot : ∀ k w, modT xss k = false → P k w → P (k + 1) w)
    (hstep : ∀ k W, w.heap.size < W.heap.size → k < 2 ^ n → modT xss k = true → P k W → Calls Try.prog g (#[.int .i64 k] ++ cb) W fun e w' => ∃ (q : Bool) (F : List Nat), e = .returned (.bool q) ∧ w.heap.size ∉ F ∧ Chg F W w' ∧ (if q then P (k + 1) w' else P (2 ^ n) w')) :
    Calls Try.prog 83 #[.agg #[.int .i64 n, .slice A xss.length cap], .func (.func g) #[] cb] w fun e w' => e = .returned (.tuple #[]) ∧ P (2 ^ n) w' := by
  unfold Enter1 at eg
  obtain ⟨hsh, hp⟩ := pow12 hn
  generalize 2 ^ n = N at *
  have c0 : (w.alloc (.cells #[.int .i64 n, .slice A xss.length cap] 26)).cell? ⟨w.heap.size, 0, none⟩ = some (.int .i64 n) := cell_of_row _ _ _ _ _ _ (heap_alloc_new w _)
  have c1 : (w.alloc (.cells #[.int .i64 n, .slice A xss.length cap] 26)).cell? ⟨w.heap.size, 1, none⟩ = some (.slice A xss.length cap) := cell_of_row _ _ _ _ _ _ (heap_alloc_new w _)
  have HP0 := Lib.hid (hgrow 0 w _ h0 (bal (bb w) (.cells #[.int .i64 n, .slice A xss.length cap] 26)))
  replace hgrow := Lib.hid hgrow
  replace hcls := Lib.hid hcls
  replace hnot := Lib.hid hnot
  replace hstep := Lib.hid hstep
  have hcc := Lib.hid hc
  clear h0 hc
  go_enter Try.func83, Try.ntmps83
  go_wp2_with fail
  rw [hsh]
  go_loopw [4, 8] (fun _ i wr => ∃ k : Nat, k ≤ N ∧ i = .int .i64 k ∧ wr.cell? ⟨w.heap.size, 1, none⟩ = some (.slice A xss.length cap) ∧ Hid (P k wr)) (fun _ i _ => N - (intOf i).toNat)
  case atStart => exact ⟨0, Nat.zero_le _, rfl, c1, HP0⟩
  case round =>
    obtain ⟨k, hk, rfl, d1, HP⟩ := hrel
    clear HP0 c0 c1
    by_cases hlt : k < N
    · have hcall := Lib.hid (isModel_any xss hcc.out hl A cap k (Nat.lt_of_lt_of_le hlt (Nat.le_trans hp (by decide))) wr (hcls.out k wr HP.out))
      cases hq : modT xss k
      · rw [hq] at hcall
        go_wp2_with fail
        refine hcall.out.mono ?_
        rintro e w1 ⟨rfl, hb1⟩
        have HP2 := Lib.hid (hnot.out k w1 hq (hgrow.out k wr w1 HP.out hb1))
        have d2 := ((bcell hb1).1 _ _ (World.block_lt_of_cell? _ _ d1)).trans d1
        clear hcall hb1 HP d1
        go_wp2_with fail
        go_roundw
        case rel => exact ⟨k + 1, by omega, by go_num, d2, HP2⟩
        case measure => simp [intOf]; omega
      · rw [hq] at hcall
        go_wp2_with fail
        refine hcall.out.mono ?_
        rintro e w1 ⟨rfl, hb1⟩
        have d2 := ((bcell hb1).1 _ _ (World.block_lt_of_cell? _ _ d1)).trans d1
        have hst := Lib.hid (hstep.out k w1 (World.block_lt_of_cell? _ _ d2) hlt hq (hgrow.out k wr w1 HP.out hb1))
        clear hcall hb1 HP d1
        go_wp2_with fail
        refine hst.out.mono ?_
        rintro e w2 ⟨q, F, rfl, hFF, hch, hP2⟩
        have d3 := (World.cell?_of_block (a := ⟨w.heap.size, 1, none⟩) (hch.block _ (World.block_lt_of_cell? _ _ d2) hFF)).trans d2
        cases q
        · replace hP2 := Lib.hid hP2
          clear hst hch hFF d2
          go_wp2_with fail
          have hP3 : P N w2 := hP2.out
          exact bodyPost_ret (v := .tuple #[]) (by simp [results, Try.results83, go_sem]) rfl ⟨rfl, hP3⟩
        · have HP2 : Hid (P (k + 1) w2) := hP2
          clear hst hch hFF d2 hP2
          go_wp2_with fail
          go_roundw
          case rel => exact ⟨k + 1, by omega, by go_num, d3, HP2⟩
          case measure => simp [intOf]; omega
    · obtain rfl : k = N := by omega
      go_wp2_with fail
      exact bodyPost_end (v := .tuple #[]) (by simp [results, Try.results83, go_sem]) rfl ⟨rfl, HP.out⟩
end Go.Proofs.Ytmikconjhmhekaa

/- Contract: the closure that lists models, in the program. -/
namespace Go.Proofs.Ytmikconjhmhekaa
open Go.RowKit

set_option maxRecDepth 100000 in
set_option maxHeartbeats 4000000 in
theorem allStep_any (w V : World) (ts : List Int) (B : Option Addr) (cc o fb k m : Nat) (fcs : Array Value) (hk : k < 4096) (hl : ts.length ≤ 300)
    (S : Sp w V [Own 3 1 (.slice B ts.length cc) ts.length (ts.map (.int .i64)), Box o 30 #[.slice B ts.length cc], Box fb 26 fcs])
    (hm1 : m < V.heap.size) (hmo : m ≠ o) (hmB : ∀ g, (Value.slice B ts.length cc).ownBlock = some g → g ≠ m) (q : Bool) (hq : decide (ts.length + 1 ≤ 300) = q) :
    Calls Try.prog 87 #[.int .i64 k, .pointer (some ⟨o, 0, none⟩)] V fun e w' => ∃ (B' : Option Addr) (cc' : Nat) (F : List Nat), e = .returned (.bool q) ∧ m ∉ F ∧ Chg F V w' ∧ (∀ g, (Value.slice B' (ts ++ [(k : Int)]).length cc').ownBlock = some g → g ≠ m) ∧
      Sp w w' [Own 3 1 (.slice B' (ts ++ [(k : Int)]).length cc') (ts ++ [(k : Int)]).length ((ts ++ [(k : Int)]).map (.int .i64)), Box o 30 #[.slice B' (ts ++ [(k : Int)]).length cc'], Box fb 26 fcs] := by
  obtain ⟨i0, hi0, hy0, hy1, hy2⟩ := info_parts infoInt
  have S4 := S.alloc_box #[.int .i64 (k : Int)] 3
  have kB := S4.cell (i := 0) rfl (o := 0) rfl
  have l0 := S.cell (i := 1) rfl (o := 0) rfl
  replace S4 := Lib.hid S4
  replace hmB := Lib.hid hmB
  clear S
  go_enter Try.func87, Try.ntmps87
  go_wp2_with (at_builtin; refine wpList_append_src rfl _ _ rfl Try.underlying30 hi0 hy0 hy1 hy2 rfl (by decide) _ _ _ rfl (S4.out.own (i := 1) rfl) _ 1 1 [.int .i64 (k : Int)] rfl (Src.one kB) (by simp [Value.oneCell']) ?c3 ?c4 ?_)
  case c3 => unfold maxLen; omega
  case c4 => omega
  intro vY wY hownY hgY hatY
  have S5 := (S4.out.own_push (i := 1) rfl (bb _) hownY hgY (by simpa using hatY)).tail
  have b1 := S5.cell (i := 1) rfl (o := 0) rfl
  have q1 := S5.frozen (i := 1) rfl 0
  have hl2 : ts.length + 1 = (ts ++ [(k : Int)]).length := by simp
  have hch : Chg ((Value.slice B ts.length cc).ownBlock.toList ++ [o]) V wY := by
    have hb := bal (bb V) (.cells #[.int .i64 (k : Int)] 3)
    exact ⟨hgY.os.trans hb.os, hgY.tape.trans hb.tape, hgY.output.trans hb.output, Nat.le_trans hb.size hgY.size, fun j hj hn =>
      (hgY.block j (Nat.lt_of_lt_of_le hj hb.size) (fun e => hn (List.mem_append.2 (.inl (by rw [← e]; simp))))).trans (hb.block j hj)⟩
  have hnew : ∀ g, vY.ownBlock = some g → g ≠ m := fun g hg => by
    have h2 : vY.ownBlock = (Value.slice B ts.length cc).ownBlock ∨ vY.ownBlock = some (V.heap.size + 1) := by simpa using hatY
    rcases h2 with h2 | h2
    · rw [h2] at hg; exact hmB.out g hg
    · rw [h2] at hg
      simp only [Option.some.injEq] at hg
      omega
  obtain ⟨aY, cY, rfl⟩ := own_slice hownY
  obtain ⟨L, hL⟩ : ∃ L, ts.length + 1 = L := ⟨_, rfl⟩
  rw [hL] at S5 hnew ⊢
  have S6 : Sp w (wY.setCell ⟨o, 0, none⟩ (.slice aY L cY)) [Own 3 1 (.slice aY L cY) L ((ts ++ [(k : Int)]).map (.int .i64)), Box o 30 #[.slice aY L cY], Box fb 26 fcs] := by
    rw [List.map_append]
    exact S5.store (i := 1) rfl 0 (.slice aY L cY)
  have l2 := S6.cell (i := 1) rfl (o := 0) rfl
  have hch2 := Lib.hid (hch.set (p := ⟨o, 0, none⟩) (by simp) (.slice aY L cY))
  have hmF : Hid (m ∉ (Value.slice B ts.length cc).ownBlock.toList ++ [o]) := fun h => by
    rcases List.mem_append.1 h with h | h
    · exact hmB.out m (by simpa using h) rfl
    · exact hmo (by simpa using h)
  have hlL : Hid ((ts ++ [(k : Int)]).length = L) := by unfold Hid; rw [← hl2, hL]
  replace hnew := Lib.hid hnew
  replace S6 := Lib.hid S6
  replace hL := Lib.hid hL
  clear S4 S5 kB l0 hownY hgY hatY hch hmB hl2
  cases q
  · have d3 : decide ((L : Int) ≤ 300) = false := decide_eq_false (by have := of_decide_eq_false hq; have := hL.out; omega)
    clear hq
    go_wp2_with fail
    go_ret
    first
      | exact ⟨aY, cY, _, rfl, hmF.out, hch2.out, by rw [hlL.out]; exact hnew.out, by rw [hlL.out]; exact S6.out⟩
      | exact ⟨rfl, aY, cY, _, hmF.out, hch2.out, by rw [hlL.out]; exact hnew.out, by rw [hlL.out]; exact S6.out⟩
  · have d3 : decide ((L : Int) ≤ 300) = true := decide_eq_true (by have := of_decide_eq_true hq; have := hL.out; omega)
    clear hq
    go_wp2_with fail
    go_ret
    first
      | exact ⟨aY, cY, _, rfl, hmF.out, hch2.out, by rw [hlL.out]; exact hnew.out, by rw [hlL.out]; exact S6.out⟩
      | exact ⟨rfl, aY, cY, _, hmF.out, hch2.out, by rw [hlL.out]; exact hnew.out, by rw [hlL.out]; exact S6.out⟩
end Go.Proofs.Ytmikconjhmhekaa

/- Contract: all models listed, in the program. -/
namespace Go.Proofs.Ytmikconjhmhekaa
open Go.RowKit

theorem cntP_mono {p : Nat → Bool} {k : Nat} : ∀ d, cntP p k ≤ cntP p (k + d)
  | 0 => Nat.le_refl _
  | d + 1 => by
    have := cntP_mono (p := p) (k := k) d
    cases h : p (k + d)
    · rw [show k + (d + 1) = (k + d) + 1 from rfl, cntP_no h]; exact this
    · rw [show k + (d + 1) = (k + d) + 1 from rfl, cntP_yes h]; omega
/-- What is listed before k, at most 301 numbers. -/
def AllP (w : World) (p : Nat → Bool) (N o m fb : Nat) (fcs : Array Value) (k : Nat) (V : World) : Prop :=
  ∃ (ts : List Int) (B : Option Addr) (cc : Nat), (ts.length ≤ 300 → ts = allN p k) ∧ (300 < ts.length → 300 < cntP p N) ∧ (k < N → ts.length ≤ 300) ∧ (∀ g, (Value.slice B ts.length cc).ownBlock = some g → g ≠ m) ∧
    Sp w V [Own 3 1 (.slice B ts.length cc) ts.length (ts.map (.int .i64)), Box o 30 #[.slice B ts.length cc], Box fb 26 fcs]

set_option maxRecDepth 100000 in
set_option maxHeartbeats 4000000 in
theorem allModels_any (vars : Int) (v : Value) (xss : List (List Int)) (F : List Nat) (w : World) (hx : (Ty.slice Ty.int).row false w v xss F) :
    Calls Try.prog 13 #[.agg #[.int .i64 vars, v]] w (IAns w (goodB vars xss && decide (cntP (modT xss) (2 ^ vars.toNat) ≤ 300)) (if goodB vars xss && decide (cntP (modT xss) (2 ^ vars.toNat) ≤ 300) then allN (modT xss) (2 ^ vars.toNat) else [])) := by
  obtain ⟨A, cap, rfl, hI⟩ := cls_row hx
  have S0 := (Sp.start w).alloc_box #[.int .i64 vars, .slice A xss.length cap] 26
  have hcall := Lib.hid (implIsCnf_any vars _ xss F _ (Ty.row_below hx S0.below (Ty.row_lt hx)))
  replace S0 := Lib.hid S0
  have c0 := S0.out.cell (i := 0) rfl (o := 0) rfl
  have c1 := S0.out.cell (i := 0) rfl (o := 1) rfl
  clear hx
  cases h1 : goodB vars xss
  · rw [h1] at hcall
    go_enter Try.func13, Try.ntmps13
    go_wp2_with fail
    refine hcall.out.mono ?_
    rintro e w1 ⟨rfl, hb1⟩
    have hB := Lib.hid (S0.out.grow hb1).below
    clear hcall S0 c0 c1 hb1
    go_wp2_with fail
    go_ret2
    exact ⟨none, 0, rfl, ⟨fun j hj => by simp at hj, fun c hc => by simp at hc⟩, hB.out⟩
  have hg := good_cnf h1
  obtain ⟨n, rfl⟩ := Int.eq_ofNat_of_zero_le hg.1.1
  rw [show (n : Int).toNat = n by omega]
  have hn : n ≤ 12 := by omega
  have hp := (pow12 hn).2
  have eg : Enter1 87 := enters_of Try.func87 (by kernel_rfl) rfl
  have hmod := Lib.hid (fun W (S : Sp w W [Box w.heap.size 26 #[.int .i64 n, .slice A xss.length cap]]) =>
    models2_any (cb := #[.pointer (some ⟨W.heap.size, 0, none⟩)]) eg n hn xss hg.2.2.2 (by omega) A cap (W.alloc (.cells #[.slice none 0 0] 30))
    (AllP w (modT xss) (2 ^ n) W.heap.size (W.alloc (.cells #[.slice none 0 0] 30)).heap.size w.heap.size #[.int .i64 n, .slice A xss.length cap])
    ⟨[], none, 0, fun _ => rfl, fun h => absurd h (by simp), fun _ => by simp, fun g hg => (by cases hg), (S.alloc_box #[.slice none 0 0] 30).own_nil _ _⟩
    (fun k V V' ⟨ts, B, cc, a1, a2, a3, a4, h⟩ hb => ⟨ts, B, cc, a1, a2, a3, a4, h.grow hb⟩) (fun k V ⟨_, _, _, _, _, _, _, h⟩ => hI.grow h.below)
    (fun k V hm ⟨ts, B, cc, a1, a2, a3, a4, h⟩ => ⟨ts, B, cc, fun hl => by rw [allN_no hm]; exact a1 hl, a2, fun hk => a3 (by omega), a4, h⟩)
    (fun k V hV hk hm ⟨ts, B, cc, a1, a2, a3, a4, h⟩ => by
      have hts := a1 (a3 hk)
      have hy := allN_yes hm
      have hcy := cntP_yes hm
      have hln := allN_len (modT xss) k
      have hmo := cntP_mono (p := modT xss) (k := k + 1) (2 ^ n - (k + 1))
      rw [show k + 1 + (2 ^ n - (k + 1)) = 2 ^ n by omega] at hmo
      obtain ⟨q, hq⟩ : ∃ q, decide (ts.length + 1 ≤ 300) = q := ⟨_, rfl⟩
      refine (allStep_any w V ts B cc W.heap.size w.heap.size k _ _ (Nat.lt_of_lt_of_le hk hp) (a3 hk) h hV (by simp) a4 q hq).mono ?_
      rintro e w' ⟨B', cc', G, rfl, hmG, hch, hnb, hS⟩
      refine ⟨q, G, rfl, hmG, hch, ?_⟩
      have hl2 : (ts ++ [(k : Int)]).length = ts.length + 1 := by simp
      cases q
      · have h3 := of_decide_eq_false hq
        exact ⟨_, B', cc', fun hl => absurd hl (by rw [hl2]; omega), fun _ => by rw [← hts] at hln; omega, fun hlt => absurd hlt (Nat.lt_irrefl _), hnb, hS⟩
      · have h3 := of_decide_eq_true hq
        exact ⟨_, B', cc', fun _ => by rw [hy, hts], fun hl => absurd hl (by rw [hl2]; omega), fun _ => by rw [hl2]; omega, hnb, hS⟩))
  have hlen := Lib.hid (allN_len (modT xss) (2 ^ n))
  have hok := Lib.hid (allN_ok (modT xss) (k := 2 ^ n) hp)
  rw [h1] at hcall
  rw [Bool.true_and]
  clear eg hI hg h1 hp
  generalize 2 ^ n = N at *
  obtain ⟨ok, hq⟩ : ∃ ok, decide (cntP (modT xss) N ≤ 300) = ok := ⟨_, rfl⟩
  rw [hq]
  obtain ⟨zs, hzs⟩ : ∃ zs, (if ok = true then allN (modT xss) N else []) = zs := ⟨_, rfl⟩
  rw [hzs]
  replace hq := Lib.hid hq
  replace hzs := Lib.hid hzs
  go_enter Try.func13, Try.ntmps13
  go_wp2_with fail
  refine hcall.out.mono ?_
  rintro e w1 ⟨rfl, hb1⟩
  have S1 := Lib.hid (S0.out.grow hb1)
  have SA := S1.out.alloc_box #[.slice none 0 0] 30
  have d0 := SA.cell (i := 1) rfl (o := 0) rfl
  have d1 := SA.cell (i := 1) rfl (o := 1) rfl
  clear SA
  have hm2 := Lib.hid (hmod.out _ S1.out)
  clear hcall hmod S0 S1 c0 c1 hb1
  go_wp2_with fail
  refine hm2.out.mono ?_
  rintro e w2 ⟨rfl, ts, B, cc, a1, a2, -, -, S2⟩
  have d2 := S2.cell (i := 1) rfl (o := 0) rfl
  have hB := Lib.hid S2.below
  clear hm2 d0 d1
  by_cases h3 : (300 : Int) < (ts.length : Int)
  · have d3 : decide ((300 : Int) < (ts.length : Int)) = true := decide_eq_true h3
    have h4 := a2 (by omega)
    have d4 : decide (cntP (modT xss) N ≤ 300) = false := decide_eq_false (by omega)
    obtain rfl : ok = false := by rw [← hq.out]; exact d4
    obtain rfl : zs = [] := by rw [← hzs.out]; rfl
    clear S2 a1 a2 h4 d4
    go_wp2_with fail
    go_ret2
    exact ⟨none, 0, rfl, ⟨fun j hj => by simp at hj, fun c hc => by simp at hc⟩, hB.out⟩
  · have d3 : decide ((300 : Int) < (ts.length : Int)) = false := decide_eq_false h3
    have h4 := a1 (by omega)
    have d4 : decide (cntP (modT xss) N ≤ 300) = true := decide_eq_true (by rw [← hlen.out, ← h4]; omega)
    have hokt : ∀ x ∈ ts, I64 x := by rw [h4]; exact hok.out
    obtain ⟨G, hr, -, -⟩ := own_row (S2.own (i := 0) rfl) hokt
    obtain ⟨B', c', e', hT⟩ := ints_row (Ty.row_down hr)
    cases e'
    replace hT := Lib.hid hT
    replace h4 := Lib.hid h4
    obtain rfl : ok = true := by rw [← hq.out]; exact d4
    obtain rfl : zs = ts := by rw [← hzs.out, h4.out]; rfl
    clear S2 a1 a2 hr hokt d4
    go_wp2_with fail
    go_ret2
    exact ⟨_, _, rfl, hT.out, hB.out⟩
end Go.Proofs.Ytmikconjhmhekaa

/- Contract: the backbone of a Cnf, in the program. -/
namespace Go.Proofs.Ytmikconjhmhekaa
open Go.RowKit

/-- The literals of a model that are true for all models up to k. -/
def keepK (n : Nat) (xss : List (List Int)) (f k : Nat) : List Int := (totB n f).filter fun l => (mods (modT xss) k).all fun b => litT b l
theorem mods_no {p : Nat → Bool} {k : Nat} (h : p k = false) : mods p (k + 1) = mods p k := by simp [mods, List.range_succ, List.filter_append, h]
theorem mods_yes {p : Nat → Bool} {k : Nat} (h : p k = true) : mods p (k + 1) = mods p k ++ [k] := by simp [mods, List.range_succ, List.filter_append, h]
theorem keep_no {n f k : Nat} {xss : List (List Int)} (h : modT xss k = false) : keepK n xss f (k + 1) = keepK n xss f k := by unfold keepK; rw [mods_no h]
theorem keep_yes {n f k : Nat} {xss : List (List Int)} (h : modT xss k = true) : keepK n xss f (k + 1) = (keepK n xss f k).filter fun l => !(!litT k l) := by
  unfold keepK
  rw [mods_yes h, List.filter_filter]
  congr 1
  funext l
  rw [List.all_append, Bool.and_comm]
  simp
theorem keep_zero (n f : Nat) (xss : List (List Int)) : keepK n xss f 0 = totB n f := by
  unfold keepK
  rw [List.filter_eq_self]
  intro l _
  rfl
theorem keep_len (n : Nat) (xss : List (List Int)) (f k : Nat) : (keepK n xss f k).length ≤ n := Nat.le_trans (List.length_filter_le _ _) (by rw [tot_len]; exact Nat.le_refl _)
theorem tot_lit {n f : Nat} (hn : n ≤ 12) : ∀ l ∈ totB n f, LitS l := by
  intro l hl
  obtain ⟨i, hi, rfl⟩ := List.mem_map.1 hl
  have := List.mem_range.1 hi
  unfold totI LitS
  split <;> omega
theorem keep_lit {n f k : Nat} (hn : n ≤ 12) {xss : List (List Int)} : ∀ l ∈ keepK n xss f k, LitS l := fun l hl => tot_lit hn l (List.mem_filter.1 hl).1
theorem keep_bone_k (n : Nat) (xss : List (List Int)) (f : Nat) (hf : f ∈ mods (modT xss) (2 ^ n)) : ∀ k, (totB k f).filter (fun l => (mods (modT xss) (2 ^ n)).all fun b => litT b l) = boneTo n xss k
  | 0 => rfl
  | k + 1 => by
    rw [tot_snoc, List.filter_append, keep_bone_k n xss f hf k, bone_next]
    congr 1
    have himp : ∀ x, impB n xss [x] = (mods (modT xss) (2 ^ n)).all fun b => litT b x := fun x => by
      rw [imp_mods]
      congr 1
      funext b
      exact cl_one x b
    rw [himp, himp]
    unfold totI
    have hp : ∀ (q : Bool), f.testBit k = q → ((mods (modT xss) (2 ^ n)).all fun b => litT b ((k : Int) + 1)) = true → q = true := fun q hq h => by
      have := List.all_eq_true.1 h f hf
      rw [lit_pos, hq] at this
      exact this
    have hm : ∀ (q : Bool), f.testBit k = q → ((mods (modT xss) (2 ^ n)).all fun b => litT b (-((k : Int) + 1))) = true → q = false := fun q hq h => by
      have := List.all_eq_true.1 h f hf
      rw [lit_neg, hq] at this
      simpa using this
    cases hq : f.testBit k
    · have h1 : ((mods (modT xss) (2 ^ n)).all fun b => litT b ((k : Int) + 1)) = false := by
        cases h : ((mods (modT xss) (2 ^ n)).all fun b => litT b ((k : Int) + 1))
        · rfl
        · exact absurd (hp _ hq h) (by simp)
      rw [h1]
      cases h2 : ((mods (modT xss) (2 ^ n)).all fun b => litT b (-((k : Int) + 1)))
      · simp [List.filter, h2]
      · simp [List.filter, h2]
    · have h1 : ((mods (modT xss) (2 ^ n)).all fun b => litT b (-((k : Int) + 1))) = false := by
        cases h : ((mods (modT xss) (2 ^ n)).all fun b => litT b (-((k : Int) + 1)))
        · rfl
        · exact absurd (hm _ hq h) (by simp)
      rw [h1]
      cases h2 : ((mods (modT xss) (2 ^ n)).all fun b => litT b ((k : Int) + 1))
      · simp [List.filter, h2]
      · simp [List.filter, h2]
theorem keep_bone {n : Nat} {xss : List (List Int)} {f : Nat} (h1 : f < 2 ^ n) (h2 : modT xss f = true) : keepK n xss f (2 ^ n) = boneTo n xss n :=
  keep_bone_k n xss f (List.mem_filter.2 ⟨List.mem_range.2 h1, h2⟩) n
theorem idx_model {p : Nat → Bool} {N : Nat} (h : (List.range N).any p = true) : ∃ f : Nat, idxP p (List.range N) = (f : Int) ∧ f < N ∧ p f = true := by
  have hlt : (List.range N).findIdx p < (List.range N).length := List.findIdx_lt_length_of_exists (by simpa using List.any_eq_true.1 h)
  refine ⟨(List.range N).findIdx p, by unfold idxP; rw [if_pos h], by simpa using hlt, ?_⟩
  have := List.findIdx_getElem (w := hlt)
  simpa using this

set_option maxRecDepth 100000 in
set_option maxHeartbeats 4000000 in
theorem boneHolds_any (l : Int) (hl : LitS l) (b g : Nat) (hb : b < 2 ^ 62) (w : World) (k0 : w.cell? ⟨g, 0, none⟩ = some (.int .i64 b)) :
    Calls Try.prog 94 #[.int .i64 l, .pointer (some ⟨g, 0, none⟩)] w fun e w' => e = .returned (.bool (!litT b l)) ∧ Below w.heap.size w w' := by
  have S0 := (Sp.start w).alloc_box #[.int .i64 l] 3
  have hI := ints_lone (S0.cell (i := 0) rfl (o := 0) rfl) hl.i64
  have hcall := Lib.hid (holds_any [l] (by simpa using hl) (by simp) (some ⟨w.heap.size, 0, none⟩) 1 b hb _ hI)
  rw [show clT [l] b = litT b l by simp [clT]] at hcall
  have hB := Lib.hid S0.below
  generalize litT b l = q at *
  have hgl := World.block_lt_of_cell? _ _ k0
  clear S0 hI hl
  go_enter Try.func94, Try.ntmps94
  go_wp2_with fail
  refine hcall.out.mono ?_
  rintro e w1 ⟨rfl, hb1⟩
  have hB2 := Lib.hid (btr hB.out hb1)
  clear hcall hb1 hB k0
  go_wp2_with fail
  go_ret
  exact ⟨rfl, hB2.out⟩

set_option maxRecDepth 100000 in
set_option maxHeartbeats 4000000 in
theorem boneStep_any (w V : World) (ts : List Int) (B : Option Addr) (cc o fb k m : Nat) (fcs : Array Value) (hk : k < 4096) (hl : ts.length ≤ 12) (hlit : ∀ l ∈ ts, LitS l)
    (S : Sp w V [Own 3 1 (.slice B ts.length cc) ts.length (ts.map (.int .i64)), Box o 30 #[.slice B ts.length cc], Box fb 26 fcs])
    (hm1 : m < V.heap.size) (hmo : m ≠ o) (hmB : ∀ g, (Value.slice B ts.length cc).ownBlock = some g → g ≠ m) :
    Calls Try.prog 92 #[.int .i64 k, .pointer (some ⟨o, 0, none⟩)] V fun e w' => ∃ (F : List Nat), e = .returned (.bool true) ∧ m ∉ F ∧ Chg F V w' ∧ (∀ g, (Value.slice B (ts.filter fun l => !(!litT k l)).length cc).ownBlock = some g → g ≠ m) ∧
      Sp w w' [Own 3 1 (.slice B (ts.filter fun l => !(!litT k l)).length cc) (ts.filter fun l => !(!litT k l)).length ((ts.filter fun l => !(!litT k l)).map (.int .i64)), Box o 30 #[.slice B (ts.filter fun l => !(!litT k l)).length cc], Box fb 26 fcs] := by
  have S4 := (S.alloc_box #[.int .i64 (k : Int)] 3).bring (i := 1) rfl
  have eg : Enter1 94 := enters_of Try.func94 (by kernel_rfl) rfl
  have hdel := Lib.hid (deleteFuncI_any (cb := #[.pointer (some ⟨V.heap.size, 0, none⟩)]) (p := fun l => !litT k l) (R := LitS) eg ts B cc w _ _ S4 (fun l h => (hlit l h).i64) (by omega) hlit
    (fun x ys W hx hS => boneHolds_any x hx k V.heap.size (Nat.lt_trans hk (by decide)) W (hS.cell (i := 1) rfl (o := 0) rfl)))
  have l0 := S.cell (i := 1) rfl (o := 0) rfl
  have l00 := World.block_lt_of_cell? _ _ l0
  have hmB2 := Lib.hid hmB
  clear S4 eg S hlit
  generalize (ts.filter fun l => !(!litT k l)) = ss at *
  go_enter Try.func92, Try.ntmps92
  go_wp2_with fail
  refine hdel.out.mono ?_
  rintro e w1 ⟨rfl, S5, hch⟩
  have l1 := S5.cell (i := 2) rfl (o := 0) rfl
  have f1 := S5.frozen (i := 2) rfl 0
  have S6 := Lib.hid (((S5.store (i := 2) rfl 0 (.slice B ss.length cc)).bring (i := 1) rfl).tail)
  have hch2 : Hid (Chg ((Value.slice B ts.length cc).ownBlock.toList ++ [o]) V (w1.setCell ⟨o, 0, none⟩ (.slice B ss.length cc))) :=
    ((((Chg.refl _ V).alloc _).trans (hch.mono fun b hb => List.mem_append.2 (.inl hb))).set (p := ⟨o, 0, none⟩) (by simp) _)
  have hmF : Hid (m ∉ (Value.slice B ts.length cc).ownBlock.toList ++ [o]) := fun h => by
    rcases List.mem_append.1 h with h | h
    · exact hmB2.out m (by simpa using h) rfl
    · exact hmo (by simpa using h)
  have hmB3 : Hid (∀ g, (Value.slice B ss.length cc).ownBlock = some g → g ≠ m) := fun g hg => hmB2.out g (by
    cases B with
    | none => simp [Value.ownBlock] at hg
    | some a => simpa [Value.ownBlock] using hg)
  clear hdel S5 hch hmB hmB2
  go_wp2_with fail
  go_ret
  first
    | exact ⟨_, rfl, hmF.out, hch2.out, hmB3.out, S6.out⟩
    | exact ⟨rfl, _, hmF.out, hch2.out, hmB3.out, S6.out⟩

/-- What is left of the first model's literals before k. -/
def BoneP (w : World) (n : Nat) (xss : List (List Int)) (f o m fb : Nat) (fcs : Array Value) (k : Nat) (V : World) : Prop :=
  ∃ (ts : List Int) (B : Option Addr) (cc : Nat), ts = keepK n xss f k ∧ (∀ g, (Value.slice B ts.length cc).ownBlock = some g → g ≠ m) ∧
    Sp w V [Own 3 1 (.slice B ts.length cc) ts.length (ts.map (.int .i64)), Box o 30 #[.slice B ts.length cc], Box fb 26 fcs]

set_option maxRecDepth 100000 in
set_option maxHeartbeats 4000000 in
theorem implBackbone_any (vars : Int) (v : Value) (xss : List (List Int)) (F : List Nat) (w : World) (hx : (Ty.slice Ty.int).row false w v xss F) :
    Calls Try.prog 18 #[.agg #[.int .i64 vars, v]] w (IAns w (goodB vars xss && (List.range (2 ^ vars.toNat)).any (modT xss)) (if goodB vars xss && (List.range (2 ^ vars.toNat)).any (modT xss) then boneTo vars.toNat xss vars.toNat else [])) := by
  obtain ⟨A, cap, rfl, hI⟩ := cls_row hx
  have S0 := (Sp.start w).alloc_box #[.int .i64 vars, .slice A xss.length cap] 26
  have hcall := Lib.hid (firstModel_any vars _ xss F _ (Ty.row_below hx S0.below (Ty.row_lt hx)))
  replace S0 := Lib.hid S0
  have c0 := S0.out.cell (i := 0) rfl (o := 0) rfl
  have c1 := S0.out.cell (i := 0) rfl (o := 1) rfl
  clear hx
  cases h1 : goodB vars xss && (List.range (2 ^ vars.toNat)).any (modT xss)
  · rw [h1] at hcall
    go_enter Try.func18, Try.ntmps18
    go_wp2_with fail
    refine hcall.out.mono ?_
    rintro e w1 ⟨rfl, hb1⟩
    have hB := Lib.hid (S0.out.grow hb1).below
    clear hcall S0 c0 c1 hb1
    go_wp2_with fail
    go_ret2
    exact ⟨none, 0, rfl, ⟨fun j hj => by simp at hj, fun c hc => by simp at hc⟩, hB.out⟩
  obtain ⟨hgd, hany⟩ := Bool.and_eq_true_iff.1 h1
  have hg := good_cnf hgd
  obtain ⟨n, rfl⟩ := Int.eq_ofNat_of_zero_le hg.1.1
  rw [show (n : Int).toNat = n by omega] at hcall hany h1 ⊢
  have hn : n ≤ 12 := by omega
  have hp := (pow12 hn).2
  obtain ⟨f, hf, hfN, hfm⟩ := idx_model hany
  have hfin := Lib.hid (keep_bone hfN hfm)
  rw [h1, if_pos rfl, hf] at hcall
  have hf4 : f < 4096 := Nat.lt_of_lt_of_le hfN hp
  have htot := Lib.hid (fun W => total_any n f hn (Nat.lt_trans hf4 (by decide)) W)
  have eg : Enter1 92 := enters_of Try.func92 (by kernel_rfl) rfl
  have hmod := Lib.hid (fun W (o : Nat) (B : Option Addr) (cc : Nat) (ts : List Int) (hts : ts = totB n f) (S : Sp w W [Own 3 1 (.slice B ts.length cc) ts.length (ts.map (.int .i64)), Box o 30 #[.slice B ts.length cc], Box w.heap.size 26 #[.int .i64 n, .slice A xss.length cap]]) =>
    models2_any (cb := #[.pointer (some ⟨o, 0, none⟩)]) eg n hn xss hg.2.2.2 (by omega) A cap W
    (BoneP w n xss f o W.heap.size w.heap.size #[.int .i64 n, .slice A xss.length cap])
    ⟨ts, B, cc, by rw [keep_zero]; exact hts, fun g hg => Nat.ne_of_lt (owns_lt (S.own (i := 0) rfl) hg), S⟩
    (fun k V V' ⟨ts, B, cc, a1, a4, h⟩ hb => ⟨ts, B, cc, a1, a4, h.grow hb⟩) (fun k V ⟨_, _, _, _, _, h⟩ => hI.grow h.below)
    (fun k V hm ⟨ts, B, cc, a1, a4, h⟩ => ⟨ts, B, cc, by rw [keep_no hm]; exact a1, a4, h⟩)
    (fun k V hV hk hm ⟨ts, B, cc, a1, a4, h⟩ => by
      have hol := (S.box (i := 1) rfl).2.1
      refine (boneStep_any w V ts B cc o w.heap.size k W.heap.size _ (Nat.lt_of_lt_of_le hk hp) (by rw [a1]; exact Nat.le_trans (keep_len _ _ _ _) hn) (by rw [a1]; exact keep_lit hn) h hV (by omega) a4).mono ?_
      rintro e w' ⟨G, rfl, hmG, hch, hnb, hS⟩
      exact ⟨true, G, rfl, hmG, hch, _, B, cc, by rw [keep_yes hm, a1], hnb, hS⟩))
  have hbo := Lib.hid (bone_ok n xss n (by omega))
  have htl := Lib.hid (tot_len n f)
  rw [if_pos rfl]
  clear eg hI hg h1 hp hgd hany hfm
  generalize 2 ^ n = N at *
  go_enter Try.func18, Try.ntmps18
  go_wp2_with fail
  refine hcall.out.mono ?_
  rintro e w1 ⟨rfl, hb1⟩
  have S1 := Lib.hid (S0.out.grow hb1)
  clear hcall S0 c0 c1 hb1
  have c0 := S1.out.cell (i := 0) rfl (o := 0) rfl
  have c1 := S1.out.cell (i := 0) rfl (o := 1) rfl
  go_wp2_with fail
  refine (htot.out _).mono ?_
  rintro e w2 ⟨B, cc, rfl, T2⟩
  have S2 := S1.out.seq T2
  have S3 := (S2.alloc_box #[.slice B n cc] 30).bring (i := 1) rfl
  have S4 : Hid (Sp w (w2.alloc (.cells #[.slice B n cc] 30)) [Own 3 1 (.slice B (totB n f).length cc) (totB n f).length ((totB n f).map (.int .i64)), Box w2.heap.size 30 #[.slice B (totB n f).length cc], Box w.heap.size 26 #[.int .i64 n, .slice A xss.length cap]]) := by
    unfold Hid; rw [htl.out]; exact S3
  have d0 := S3.cell (i := 2) rfl (o := 0) rfl
  have d1 := S3.cell (i := 2) rfl (o := 1) rfl
  have d2 := S3.cell (i := 1) rfl (o := 0) rfl
  have hm2 := Lib.hid (hmod.out _ w2.heap.size B cc _ rfl S4.out)
  clear hmod htot S1 S2 S3 S4 T2 c0 c1
  go_wp2_with fail
  refine hm2.out.mono ?_
  rintro e w3 ⟨rfl, ts, E, ec, hts, -, S5⟩
  have l0 := S5.cell (i := 1) rfl (o := 0) rfl
  have hB := Lib.hid S5.below
  have hokt : ∀ x ∈ ts, I64 x := by rw [hts, hfin.out]; exact hbo.out
  obtain ⟨G, hr, -, -⟩ := own_row (S5.own (i := 0) rfl) hokt
  obtain ⟨B', c', e', hT⟩ := ints_row (Ty.row_down hr)
  cases e'
  replace hT := Lib.hid hT
  rw [hfin.out] at hts
  replace hts := Lib.hid hts
  clear S5 hr hokt hm2 d0 d1 d2
  go_wp2_with fail
  go_ret2
  exact ⟨E, ec, by rw [← hts.out]; rfl, by rw [← hts.out]; exact hT.out, hB.out⟩
end Go.Proofs.Ytmikconjhmhekaa
