/- Lemmas and contracts for a law, put together out of several texts: TnC BrA LtE CxD CxE CyA CyB CyC. -/
import Derived.Test.YtahbepajeplcmaaGreatDoorMg1
import Derived.Test.YtahbepajeplcmaaGreatDoorMg2
import Derived.Test.YtahbepajeplcmaaGreatDoorMg5
import Derived.Test.YtahbepajeplcmaaGreatDoorMg6
import Derived.Test.YtahbepajeplcmaaGreatDoorMg3
import Derived.Test.YtahbepajeplcmaaGreatDoorMg4
/- Contract: texts that are spoilt. Printed by gen_txt.py. -/
namespace Go.Proofs.YtahbepajeplcmaaGreatDoor
open Go.RowKit

def SizeLe (n : Nat) (s : ByteArray) : Prop := s.size ≤ n
theorem ext_size (s : ByteArray) (a b : Nat) (h : b ≤ s.size) : (s.extract a b).size = b - a := by
  rw [← bl_length, bl_extract, List.length_take, List.length_drop, bl_length]; omega
theorem CurIs.drewN {A g : Nat} {ca : Option Addr} {cl cc : Nat} {w : World} (h : CurIs A g ca cl cc w) (n : Nat) : CurIs A g ca cl cc (w.drewN n) := h.grow ⟨rfl, rfl, rfl, Nat.le_refl _, fun _ _ => rfl⟩
theorem Chg.drewN {F : List Nat} {a w : World} (h : Chg F a w) (n : Nat) : Chg F a (w.drewN n) := h.then ⟨rfl, rfl, rfl, Nat.le_refl _, fun _ _ => rfl⟩

set_option maxRecDepth 100000 in
set_option maxHeartbeats 4000000 in
theorem cur_spoilt (t u : ByteArray) (A g : Nat) (ca : Option Addr) (cl cc : Nat) (w : World) (h : CurIs A g ca cl cc w) (hA : A ≤ 90000000) (ht : t.size ≤ 1000000) (hu0 : 0 < u.size) (hu : u.size ≤ 1000) :
    Calls Tryz.prog 95 #[.pointer (some ⟨g, 0, none⟩), .string t, .string u] w (CurPost (StrR (SizeLe (t.size + 1))) (A + 6) g ca cl cc w) := by
  by_cases h0 : (bl t).isEmpty = true
  · obtain ⟨Y, hY⟩ : ∃ Y, u.extract 0 1 = Y := ⟨_, rfl⟩
    have hYs : Hid (Y.size ≤ t.size + 1) := by unfold Hid; rw [← hY, ext_size _ _ _ (by omega)]; omega
    have hu1 : (1 : Int) ≤ (u.size : Int) := by omega
    have h0' : bl t = [] := by simpa using h0
    go_enter Tryz.func95, Tryz.ntmps95
    go_wp2_with fail
    go_ret
    exact ⟨_, ⟨Y, hYs.out, rfl⟩, rfl, h.mono (by omega), Chg.refl _ _⟩
  have h0' : (bl t).isEmpty = false := by simpa using h0
  have ht0 : Hid (0 < t.size) := by
    unfold Hid
    rw [← bl_length]
    cases hh : bl t with
    | nil => rw [hh] at h0'; cases h0'
    | cons _ _ => simp
  clear h0
  go_enter Tryz.func95, Tryz.ntmps95
  go_wp2_with fail
  refine (cur_pick_at (lo := 0) (hi := (t.size : Int) - 1) h (by omega) (by omega) (by omega) (by have := ht0.out; omega) (by omega)).mono ?_
  rintro e w1 ⟨_, ⟨x, hx0, hx1, rfl⟩, rfl, hi1, hc1⟩
  obtain ⟨i, rfl⟩ := Int.eq_ofNat_of_zero_le hx0
  have hi : i + 1 ≤ t.size := by omega
  have hi' : (i : Int) + 1 ≤ (t.size : Int) := by omega
  clear hx1 hx0
  go_wp2_with fail
  refine (cur_pick_at (lo := 0) (hi := (u.size : Int) - 1) hi1 (by omega) (by omega) (by omega) (by omega) (by omega)).mono ?_
  rintro e w2 ⟨_, ⟨x, hx0, hx1, rfl⟩, rfl, hi2, hc2⟩
  obtain ⟨j, rfl⟩ := Int.eq_ofNat_of_zero_le hx0
  have hj : j + 1 ≤ u.size := by omega
  have hj' : (j : Int) + 1 ≤ (u.size : Int) := by omega
  clear hx1 hx0
  obtain ⟨X, hX⟩ : ∃ X, u.extract j u.size = X := ⟨_, rfl⟩
  have hXs : (1 : Int) ≤ (X.size : Int) := by rw [← hX, ext_size _ _ _ (by omega)]; omega
  obtain ⟨Y, hY⟩ : ∃ Y, X.extract 0 1 = Y := ⟨_, rfl⟩
  have hYs : Hid (Y.size = 1) := by unfold Hid; rw [← hY, ext_size _ _ _ (by omega)]
  go_wp2_with fail
  refine (cur_pick_at (lo := 0) (hi := 2) hi2 (by omega) (by omega) (by omega) (by omega) (by omega)).mono ?_
  rintro e w3 ⟨_, ⟨z, hz0, hz1, rfl⟩, rfl, hi3, hc3⟩
  have hc := Lib.hid ((hc1.trans hc2).trans hc3)
  replace hi3 := Lib.hid (hi3.mono (show A + 2 + 2 + 2 ≤ A + 6 by omega))
  clear hc1 hc2 hc3 hi1 hi2 h hX hY hXs hj hj'
  obtain ⟨T1, hT1⟩ : ∃ T, t.extract 0 i = T := ⟨_, rfl⟩
  obtain ⟨T2, hT2⟩ : ∃ T, t.extract i t.size = T := ⟨_, rfl⟩
  obtain ⟨T3, hT3⟩ : ∃ T, t.extract (i + 1) t.size = T := ⟨_, rfl⟩
  have s1 : Hid (T1.size = i) := by unfold Hid; rw [← hT1, ext_size _ _ _ (by omega)]; omega
  have s2 : Hid (T2.size = t.size - i) := by unfold Hid; rw [← hT2, ext_size _ _ _ (by omega)]
  have s3 : Hid (T3.size = t.size - (i + 1)) := by unfold Hid; rw [← hT3, ext_size _ _ _ (by omega)]
  obtain ⟨Z, hZ⟩ : ∃ Z, ms (bl T1 ++ bl Y) = Z := ⟨_, rfl⟩
  have sZ : Hid (Z.size = i + 1) := by unfold Hid; rw [← hZ, ms_size, List.length_append, bl_length, bl_length, s1.out, hYs.out]
  have a1 := fun w' => run_add (P := Tryz.prog) w' T1 Y (by rw [s1.out, hYs.out]; omega)
  rw [hZ] at a1
  have a2 := fun w' => run_add (P := Tryz.prog) w' Z T2 (by rw [sZ.out, s2.out]; omega)
  have a3 := fun w' => run_add (P := Tryz.prog) w' Z T3 (by rw [sZ.out, s3.out]; omega)
  have a4 := fun w' => run_add (P := Tryz.prog) w' T1 T3 (by rw [s1.out, s3.out]; omega)
  have r2 : Hid ((ms (bl Z ++ bl T2)).size ≤ t.size + 1) := by unfold Hid; rw [ms_size, List.length_append, bl_length, bl_length, sZ.out, s2.out]; omega
  have r3 : Hid ((ms (bl Z ++ bl T3)).size ≤ t.size + 1) := by unfold Hid; rw [ms_size, List.length_append, bl_length, bl_length, sZ.out, s3.out]; omega
  have r4 : Hid ((ms (bl T1 ++ bl T3)).size ≤ t.size + 1) := by unfold Hid; rw [ms_size, List.length_append, bl_length, bl_length, s1.out, s3.out]; omega
  have hi0 : (i : Int) ≤ (t.size : Int) := by omega
  have hw1 : IntKind.i64.wrap ((i : Int) + 1) = (i : Int) + 1 := IntWalk.i64_in _ (by omega)
  have hn1 : (0 : Int) ≤ (i : Int) + 1 := by omega
  have hn2 : ((i : Int) + 1).toNat = i + 1 := by omega
  clear hZ
  obtain rfl | rfl | rfl : z = 0 ∨ z = 1 ∨ z = 2 := by omega
  · go_wp2_with fail
    go_quiet (fail)
    go_wp2_with fail
    go_ret
    exact ⟨_, ⟨_, r2.out, rfl⟩, rfl, hi3.out.drewN _, hc.out.drewN _⟩
  · go_wp2_with fail
    go_quiet (fail)
    go_wp2_with fail
    go_ret
    exact ⟨_, ⟨_, r3.out, rfl⟩, rfl, hi3.out.drewN _, hc.out.drewN _⟩
  · go_wp2_with fail
    go_quiet (fail)
    go_wp2_with fail
    go_ret
    exact ⟨_, ⟨_, r4.out, rfl⟩, rfl, hi3.out.drewN _, hc.out.drewN _⟩
end Go.Proofs.YtahbepajeplcmaaGreatDoor

/- A part of the memory brought to the front. No program in sight. -/
namespace Go.Proofs.YtahbepajeplcmaaGreatDoor
open Go.RowKit

theorem sep_bring {w : World} : ∀ {ps : List Asn} {F : List Nat} {i : Nat} {q : Asn}, sep ps w F → ps[i]? = some q → ∃ F', sep (q :: ps.eraseIdx i) w F' ∧ ∀ b ∈ F', b ∈ F
  | [], _, _, _, _, h => by simp at h
  | p :: ps, F, 0, q, h, hi => by
    simp at hi; subst hi
    exact ⟨F, h, fun _ h => h⟩
  | p :: ps, _, i + 1, q, h, hi => by
    obtain ⟨F1, F2, rfl, hd, h1, h2⟩ := h
    obtain ⟨F', ⟨F3, F4, rfl, hd', h3, h4⟩, hs⟩ := sep_bring (i := i) h2 (by simpa using hi)
    refine ⟨F3 ++ (F1 ++ F4), ⟨F3, F1 ++ F4, rfl, fun b hb hb2 => ?_, h3, F1, F4, rfl, fun b hb hb2 => hd b hb (hs b (List.mem_append.2 (.inr hb2))), h1, h4⟩, fun b hb => ?_⟩
    · rcases List.mem_append.1 hb2 with h | h
      · exact hd b h (hs b (List.mem_append.2 (.inl hb)))
      · exact hd' b hb h
    · simp only [List.mem_append] at hb ⊢
      rcases hb with h | h | h
      · exact .inr (hs b (List.mem_append.2 (.inl h)))
      · exact .inl h
      · exact .inr (hs b (List.mem_append.2 (.inr h)))
section
variable {w0 w w' : World} {ps : List Asn} {i j : Nat} {q : Asn}
/-- A part is brought to the front. -/
theorem Sp.bring (h : Sp w0 w ps) (hi : ps[i]? = some q) : Sp w0 w (q :: ps.eraseIdx i) := by
  obtain ⟨h1, F, h2, h3⟩ := h
  obtain ⟨F', h4, h5⟩ := sep_bring h2 hi
  exact ⟨h1, F', h4, fun b hb => h3 b (h5 b hb)⟩
end
/-- Parts are picked, by their places in what is left. -/
def pickQ : List Nat → List Asn → Option (List Asn)
  | [], _ => some []
  | i :: is, ps => match ps[i]? with
    | none => none
    | some q => match pickQ is (ps.eraseIdx i) with
      | none => none
      | some qs => some (q :: qs)
theorem sep_pick {w : World} : ∀ {is : List Nat} {ps qs : List Asn} {F : List Nat}, sep ps w F → pickQ is ps = some qs → ∃ F', sep qs w F' ∧ ∀ b ∈ F', b ∈ F
  | [], _, _, _, _, hq => by
    simp only [pickQ, Option.some.injEq] at hq
    subst hq
    exact ⟨[], rfl, by simp⟩
  | i :: is, ps, qs, F, h, hq => by
    unfold pickQ at hq
    cases hi : ps[i]? with
    | none => rw [hi] at hq; cases hq
    | some q =>
      rw [hi] at hq
      simp only at hq
      cases hr : pickQ is (ps.eraseIdx i) with
      | none => rw [hr] at hq; cases hq
      | some rs =>
        rw [hr] at hq
        simp only [Option.some.injEq] at hq
        subst hq
        obtain ⟨F1, ⟨F2, F3, rfl, hd, h1, h2⟩, hs⟩ := sep_bring h hi
        obtain ⟨F4, h3, h4⟩ := sep_pick h2 hr
        exact ⟨F2 ++ F4, ⟨F2, F4, rfl, fun b hb hb4 => hd b hb (h4 b hb4), h1, h3⟩, fun b hb => by
          rcases List.mem_append.1 hb with hb | hb
          · exact hs b (List.mem_append.2 (.inl hb))
          · exact hs b (List.mem_append.2 (.inr (h4 b hb)))⟩
theorem Sp.pick {w0 w : World} {ps qs : List Asn} (is : List Nat) (h : Sp w0 w ps) (hq : pickQ is ps = some qs) : Sp w0 w qs := by
  obtain ⟨h1, F, h2, h3⟩ := h
  obtain ⟨F', h4, h5⟩ := sep_pick h2 hq
  exact ⟨h1, F', h4, fun b hb => h3 b (h5 b hb)⟩
end Go.Proofs.YtahbepajeplcmaaGreatDoor

/- Contracts: the clause of a text, in the reference. Printed by gen_lte.py. -/
namespace Go.Proofs.YtahbepajeplcmaaGreatDoor
open Go.RowKit

/-- The result of 'l1Split', as a row of its own. -/
def SplitPostO (w : World) (l : List UInt8) (b : Int) (e : Ending) (w' : World) : Prop :=
  ∃ (v : Value) (ps : List ByteArray), e = .returned v ∧ w'.ownsRow w.heap.size 9 1 v ps.length (ps.map Value.string) ∧ ps.map bl = splitP b l ∧ Below w.heap.size w w'
theorem SplitRel.doneO {s : ByteArray} {b : Int} {w wr w1 : World} {v v' : Value} {fr : Nat} {ps : List ByteArray} (h : SplitRel s b w wr v fr s.size ps)
    (hown : w1.ownsRow w.heap.size 9 1 v' (ps.length + 1) (ps.map Value.string ++ [.string (s.extract fr s.size)])) (hB : Below w.heap.size w w1) : SplitPostO w (bl s) b (.returned v') w1 := by
  obtain ⟨h1, h2, h3, h4, h5, h6, h7⟩ := h
  have e : ((bl s).drop fr).take (s.size - fr) = (bl s).drop fr := List.take_of_length_le (by rw [List.length_drop, bl_length]; exact Nat.le_refl _)
  rw [e] at h6
  rw [splitP_none h6] at h5
  have hown2 : w1.ownsRow w.heap.size 9 1 v' (ps ++ [s.extract fr s.size]).length ((ps ++ [s.extract fr s.size]).map Value.string) := by simpa using hown
  refine ⟨v', ps ++ [s.extract fr s.size], rfl, hown2, ?_, hB⟩
  rw [h5, List.map_append]; congr 1
  show [bl (s.extract fr s.size)] = _
  rw [extract_piece, e]

set_option maxHeartbeats 2000000 in
theorem l1SplitO_any (s : ByteArray) (b : Int) (w : World) (hs : s.size ≤ 1000000000000) :
    Calls Tryz.prog 107 #[.string s, .int .u8 b] w (SplitPostO w (bl s) b) := by
  obtain ⟨i0, hi, hz0, hz1, hz2⟩ := info_parts infoStr
  go_enter Tryz.func107, Tryz.ntmps107
  go_wp2_with fail
  go_loopw [5, 6, 7] (fun v f i wr => ∃ (fr k : Nat) (ps : List ByteArray), f = .int .i64 fr ∧ i = .int .i64 k ∧ SplitRel s b w wr v fr k ps) (fun _ _ i _ => s.size - (intOf i).toNat)
  case atStart => exact ⟨0, 0, [], rfl, rfl, SplitRel.start s b w _ _ (World.ownsRow_made w #[] 0 (Nat.le_refl _) (by decide) rfl)⟩
  case round =>
    obtain ⟨fr, k, ps, rfl, rfl, HR⟩ := hrel
    obtain ⟨h1, h2, h3, hown, _, _, hB⟩ := id HR
    have hsz := hB.size
    replace HR := (show Hid (SplitRel s b w wr u5 fr k ps) from HR)
    by_cases hlt : k < s.size
    · by_cases hb : ((s[k].toNat : Int) == b) = true
      · go_wp2_with (at_builtin; refine wpList_append_own _ rfl _ _ 37 rfl w.heap.size 9 i0 (.string ByteArray.empty) 1 16 Tryz.underlying37 hi hz0 hz1 hz2 rfl (by decide) _ _ _ rfl (hown.alloc _) ⟨wr.heap.size, 0, none⟩ 1 1 [.string (s.extract fr k)] rfl rfl ?c1 ?c2 ?c3 ?c4 ?c5 ?_)
        case c1 =>
          intro j u hj
          match j, hj with
          | 0, hj => simp at hj; subst hj; simp [Addr.add]
        case c2 => intro u hu; simp at hu; subst hu; rfl
        case c3 => unfold maxLen; omega
        case c4 => omega
        case c5 => simp; omega
        intro v' w1 hown' hgrow _
        have hB1 : Below w.heap.size w w1 := (hB.alloc hsz _).grown hgrow (by simp; omega) (fun q hq => (hown.lt q hq).1)
        have HN := HR.out.hit hlt hb hown' hB1
        clear hown' hgrow hown hB
        replace HN := (show Hid (SplitRel s b w w1 v' (k + 1) (k + 1) (ps ++ [s.extract fr k])) from HN)
        go_wp2
        go_roundw
        case rel => exact ⟨k + 1, k + 1, _, by go_num, by go_num, HN.out⟩
        case measure => simp [intOf]; omega
      · have hb' : ((s[k].toNat : Int) == b) = false := by simpa using hb
        have HN := HR.out.miss hlt hb'
        replace HN := (show Hid (SplitRel s b w wr u5 fr (k + 1) ps) from HN)
        clear hb
        go_wp2_with fail
        go_roundw
        case rel => exact ⟨fr, k + 1, _, by go_num, by go_num, HN.out⟩
        case measure => simp [intOf]; omega
    · obtain rfl : k = s.size := by omega
      go_wp2_with (at_builtin; refine wpList_append_own _ rfl _ _ 37 rfl w.heap.size 9 i0 (.string ByteArray.empty) 1 16 Tryz.underlying37 hi hz0 hz1 hz2 rfl (by decide) _ _ _ rfl (hown.alloc _) ⟨wr.heap.size, 0, none⟩ 1 1 [.string (s.extract fr s.size)] rfl rfl ?d1 ?d2 ?d3 ?d4 ?d5 ?_)
      case d1 =>
        intro j u hj
        match j, hj with
        | 0, hj => simp at hj; subst hj; simp [Addr.add]
      case d2 => intro u hu; simp at hu; subst hu; rfl
      case d3 => unfold maxLen; omega
      case d4 => omega
      case d5 => simp; omega
      intro v' w1 hown' hgrow _
      have hB1 : Below w.heap.size w w1 := (hB.alloc hsz _).grown hgrow (by simp; omega) (fun q hq => (hown.lt q hq).1)
      have HN := HR.out.doneO hown' hB1
      clear hown' hgrow hown hB
      replace HN := (show Hid (SplitPostO w (bl s) b (.returned v') w1) from HN)
      go_wp2_with fail
      go_ret
      exact HN.out

theorem pc_made {r : List Int × Bool} {q : Bool} {w w' : World} {A : Option Addr} {c : Nat} (h : r = ([], q)) (hS : Sp w w' [Own 3 1 (.slice A 0 c) 0 []]) : PCPost r w (.returned (.tuple #[.slice A 0 c, .bool q])) w' := by
  subst h
  exact ⟨A, c, rfl, hS⟩
theorem nums_within {ps : List (List UInt8)} (h : numsOk ps = true) : Within 1000000 (numsV ps) := by
  intro z hz
  obtain ⟨p, hp, rfl⟩ := List.mem_map.1 hz
  have := numB_back (p := p) (List.all_eq_true.1 h p hp)
  omega

set_option maxRecDepth 100000 in
set_option maxHeartbeats 8000000 in
theorem l2Parse_any (vars : Int) (s : ByteArray) (w : World) (hs : s.size ≤ 900000) :
    Calls Tryz.prog 96 #[.int .i64 vars, .string s] w (PCPost (parC vars (bl s)) w) := by
  have S0 := Lib.hid ((Sp.start w).own_made 3 1)
  obtain ⟨i0, hi, hz0, hz1, hz2⟩ := info_parts infoInt
  by_cases h0 : bl s = noneT
  · have hR : Hid (parC vars (bl s) = ([], inB vars 0 12)) := parC_none h0
    have hs0 : s = ⟨#[110, 111, 110, 101]⟩ := by rw [← ms_bl s, h0]; rfl
    subst hs0
    go_enter Tryz.func96, Tryz.ntmps96
    go_wp2_with (go_at_call 109; refine (l2Vars_any _ _).mono ?_; rintro e w1 ⟨rfl, rfl⟩)
    go_ret2
    exact pc_made hR.out S0.out
  have hne : ((bl s) == [110, 111, 110, 101]) = false := beq_eq_false_iff_ne.2 h0
  have hlong := Lib.hid (fun pp (hp : splitP 32 (bl s) = pp) (hl : 12 < pp.length) => par_long (vars := vars) h0 hp hl)
  have hfail := Lib.hid (fun pp (hp : splitP 32 (bl s) = pp) (k : Nat) (hk : k < pp.length) (hn : (numB pp[k]).2 = false) => par_fail (vars := vars) h0 hp hk hn)
  have hcla := Lib.hid (fun pp (hp : splitP 32 (bl s) = pp) (ho : numsOk pp = true) => par_clause (vars := vars) h0 hp ho)
  have htxt := Lib.hid (fun (c : List Int) (h : parC vars (bl s) = (c, true)) => (text_par h).1)
  have hsl := splitP_len 32 (bl s)
  rw [bl_length] at hsl
  have hpsz := Lib.hid (split_part_len 32 (bl s))
  have hspl := Lib.hid (fun W => l1SplitO_any s 32 W (by omega))
  have hbs : Hid ((bl s).length = s.size) := bl_length s
  obtain ⟨pp, hpp⟩ : ∃ pp, splitP 32 (bl s) = pp := ⟨_, rfl⟩
  obtain ⟨R, hRR⟩ : ∃ R, parC vars (bl s) = R := ⟨_, rfl⟩
  unfold SplitPostO at hspl
  rw [hpp] at hlong hfail hcla hsl hpsz hspl
  rw [hRR] at hlong hfail hcla htxt ⊢
  replace hlong := Lib.hid (hlong.out pp rfl)
  replace hfail := Lib.hid (hfail.out pp rfl)
  replace hcla := Lib.hid (hcla.out pp rfl)
  clear hRR hpp h0
  go_enter Tryz.func96, Tryz.ntmps96
  go_wp2_with fail
  refine (hspl.out _).mono ?_
  rintro e w1 ⟨v1, ps, rfl, ho1, hmap, hb1⟩
  have hpl : ps.length = pp.length := by rw [← hmap, List.length_map]
  have S1 : Hid (Sp w w1 [Own 9 1 v1 ps.length (ps.map .string), Own 3 1 (.slice (some ⟨w.heap.size, 0, none⟩) ([] : List Int).length 0) ([] : List Int).length (([] : List Int).map (.int .i64))]) := S0.out.own_call hb1 ho1
  obtain ⟨PB, pc, rfl⟩ := own_slice ho1
  replace hmap := Lib.hid hmap
  clear S0 hb1 ho1 hspl
  go_wp2_with fail
  go_loopw [6, 8, 9, 10] (fun vo vi _ _ wr => ∃ (c : List Int) (B : Option Addr) (cap : Nat), c.length ≤ ps.length ∧ c.length ≤ 13 ∧ vi = .int .i64 (c.length : Nat) ∧ vo = .slice B c.length cap ∧ Hid (numsOk (pp.take c.length) = true ∧ c = numsV (pp.take c.length)) ∧ Hid (Sp w wr [Own 9 1 (.slice PB ps.length pc) ps.length (ps.map .string), Own 3 1 (.slice B c.length cap) c.length (c.map (.int .i64))])) (fun _ vi _ _ _ => ps.length + 20 - (intOf vi).toNat)
  case atStart => exact ⟨[], _, _, Nat.zero_le _, by simp, rfl, rfl, ⟨rfl, rfl⟩, S1⟩
  case round =>
    obtain ⟨c, B, cap, hk, hk13, rfl, rfl, HW, HS⟩ := hrel
    clear S1
    go_upto_region 6 with fail
    go_cut [26] (fun v wx => ∃ q : Bool, v = .bool q ∧ Hid ((q = true → c.length < ps.length ∧ c.length ≤ 12) ∧ (q = false → c.length = ps.length ∨ 12 < ps.length)) ∧ Hid (Sp w wx [Own 9 1 (.slice PB ps.length pc) ps.length (ps.map .string), Own 3 1 (.slice B c.length cap) c.length (c.map (.int .i64))]))
    case first =>
      have hcond : (c.length < ps.length ∧ c.length ≤ 12) ∨ ¬ c.length < ps.length ∨ (c.length < ps.length ∧ ¬ c.length ≤ 12) := by omega
      rcases hcond with ⟨hm, hn0⟩ | hm | ⟨hm, hn0⟩
      · have d1 : decide ((c.length : Int) < (ps.length : Int)) = true := decide_eq_true (by omega)
        have d2 : decide ((c.length : Int) ≤ 12) = true := decide_eq_true (by omega)
        have hq : Hid ((true = true → c.length < ps.length ∧ c.length ≤ 12) ∧ (true = false → c.length = ps.length ∨ 12 < ps.length)) := ⟨fun _ => ⟨hm, hn0⟩, fun e => by cases e⟩
        go_wp2_with fail
        go_meet
        exact ⟨true, rfl, ⟨fun _ => ⟨hm, hn0⟩, fun e => by cases e⟩, HS⟩
      · have d1 : decide ((c.length : Int) < (ps.length : Int)) = false := decide_eq_false (by omega)
        go_wp2_with fail
        go_meet
        exact ⟨false, rfl, ⟨(fun e => by cases e), fun _ => .inl (by omega)⟩, HS⟩
      · have d1 : decide ((c.length : Int) < (ps.length : Int)) = true := decide_eq_true (by omega)
        have d2 : decide ((c.length : Int) ≤ 12) = false := decide_eq_false (by omega)
        go_wp2_with fail
        go_meet
        exact ⟨false, rfl, ⟨(fun e => by cases e), fun _ => .inr (by omega)⟩, HS⟩
    case rest =>
    clear HS
    obtain ⟨q, rfl, hq, HS⟩ := hcut
    cases q
    case true =>
      obtain ⟨hm, hn0⟩ := hq.out.1 rfl
      clear hq
      obtain ⟨b, off, rfl, m0⟩ := strs_own (HS.out.own (i := 0) rfl) hm
      have hmp : c.length < pp.length := by omega
      have hpk : bl ps[c.length] = pp[c.length] := by simp only [← hmap.out, List.getElem_map]
      have hsz : ps[c.length].size ≤ s.size := by
        have := hpsz.out _ (List.getElem_mem hmp)
        rw [← hpk, bl_length, hbs.out] at this
        exact this
      have hrd := Lib.hid (fun W => l1Read_any ps[c.length] W (by omega))
      have hst := nums_step hmp HW.out.1
      have hno := hfail.out c.length hmp
      rw [hpk] at hrd
      generalize ps[c.length] = p at *
      generalize hzz : numB pp[c.length] = zz at *
      obtain ⟨z, q⟩ := zz
      dsimp only at hrd hst hno
      clear hpk hsz
      cases q
      · have hR2 := Lib.hid (hno rfl)
        clear hno hst
        go_wp2_with fail
        refine (hrd.out _).mono ?_
        rintro e w2 ⟨rfl, hb2⟩
        have S3 := Lib.hid ((HS.out.grow hb2).own_made 3 1)
        clear HS hrd hb2 m0
        go_wp2_with fail
        go_ret2
        exact pc_made hR2.out (S3.out.pick [0] rfl)
      · have hst2 := Lib.hid (hst rfl)
        clear hno hst
        go_wp2_with fail
        refine (hrd.out _).mono ?_
        rintro e w2 ⟨rfl, hb2⟩
        have S3 := (HS.out.grow hb2).alloc_box #[.int .i64 z] 3
        have kB := S3.cell (i := 0) rfl (o := 0) rfl
        replace S3 := Lib.hid S3
        clear HS hrd hb2 m0
        go_wp2_with (at_builtin; refine wpList_append_src rfl _ _ rfl Tryz.underlying43 hi hz0 hz1 hz2 rfl (by decide) _ _ _ rfl (S3.out.own (i := 2) rfl) _ 1 1 [.int .i64 z] rfl (Src.one kB) (by simp [Value.oneCell']) ?c3 ?c4 ?_)
        case c3 => unfold maxLen; omega
        case c4 => omega
        intro vY wY hownY hgY hatY
        have S4 := (S3.out.own_push (i := 2) rfl (bb _) hownY hgY (by simpa using hatY)).tail
        obtain ⟨aY, cY, rfl⟩ := own_slice hownY
        have hlen : c.length + 1 = (c ++ [z]).length := by simp
        have HS3 : Hid (Sp w wY [Own 9 1 (.slice (some ⟨b, off, none⟩) ps.length pc) ps.length (ps.map .string), Own 3 1 (.slice aY (c ++ [z]).length cY) (c ++ [z]).length ((c ++ [z]).map (.int .i64))]) := by
          unfold Hid; rw [← hlen, List.map_append]; exact S4
        have HW2 : Hid (numsOk (pp.take (c ++ [z]).length) = true ∧ c ++ [z] = numsV (pp.take (c ++ [z]).length)) := by
          unfold Hid
          rw [← hlen]
          exact ⟨hst2.out.1, by rw [hst2.out.2, ← HW.out.2]⟩
        have hi1 : IntKind.i64.wrap ((c.length : Int) + 1) = ((c ++ [z]).length : Int) := by rw [IntWalk.i64_in _ (by omega), ← hlen]; omega
        rw [hlen]
        have hl2 : (c ++ [z]).length ≤ ps.length := by omega
        have hl3 : (c ++ [z]).length ≤ 13 := by omega
        have hl4 : c.length < (c ++ [z]).length := by omega
        clear HW hst2
        generalize c ++ [z] = c2 at *
        replace hlen := Lib.hid hlen
        clear S3 S4 kB hownY hgY hatY
        go_wp2_with fail
        go_roundw
        case rel => exact ⟨c2, aY, cY, hl2, hl3, rfl, rfl, HW2, HS3⟩
        case measure => simp [intOf]; omega
    case false =>
      have hq2 := Lib.hid (hq.out.2 rfl)
      clear hq
      have hW := nums_within HW.out.1
      rw [← HW.out.2] at hW
      obtain ⟨F, hr, -, -⟩ := own_row (HS.out.own (i := 1) rfl) (hW.i64 (by decide))
      obtain ⟨A', c', e', hI⟩ := ints_own (HS.out.own (i := 1) rfl) (hW.i64 (by decide))
      cases e'
      by_cases h12 : 12 < ps.length
      · have hR2 := Lib.hid (hlong.out (by omega))
        have d1 : decide ((12 : Int) < (ps.length : Int)) = true := decide_eq_true (by omega)
        have S3 := Lib.hid (HS.out.own_made 3 1)
        clear HS hr hI
        go_wp2_with fail
        go_ret2
        exact pc_made hR2.out (S3.out.pick [0] rfl)
      · have d1 : decide ((12 : Int) < (ps.length : Int)) = false := decide_eq_false (by omega)
        have hcl' : c.length = pp.length := by have := hq2.out; omega
        have htk : pp.take c.length = pp := List.take_of_length_le (by omega)
        have hok := HW.out
        rw [htk] at hok
        have hPC := hcla.out hok.1
        rw [← hok.2] at hPC
        obtain ⟨q, hq⟩ : ∃ q, clauseB vars c = q := ⟨_, rfl⟩
        have hcl := Lib.hid (l2Clause_at (w := wc) (Ty.row_down hr) hq)
        rw [hq] at hPC
        have htx := Lib.hid (fun W hb => l2Text_any c hW (by omega) B cap W (hI.grow hb))
        clear hr hI hq2 hok htk
        replace HW := Lib.hid HW
        replace hcl' := Lib.hid hcl'
        cases q
        · have hR2 : Hid (R = ([], false)) := hPC
          clear hPC
          go_wp2_with fail
          refine hcl.out.mono ?_
          rintro e w2 ⟨rfl, hb2⟩
          have S3 := Lib.hid ((HS.out.grow hb2).own_made 3 1)
          clear HS hcl htx hb2
          go_wp2_with fail
          go_ret2
          exact pc_made hR2.out (S3.out.pick [0] rfl)
        · have hR2 : Hid (R = (c, true)) := hPC
          have ht1 := htxt.out c hR2.out
          have htx2 := htx.out
          rw [ht1, ms_bl] at htx2
          replace htx2 := Lib.hid htx2
          clear hPC htx ht1
          go_wp2_with fail
          refine hcl.out.mono ?_
          rintro e w2 ⟨rfl, hb2⟩
          have S3 := Lib.hid (HS.out.grow hb2)
          have htx3 := Lib.hid (htx2.out _ hb2)
          clear HS hcl hb2 htx2
          go_wp2_with fail
          refine htx3.out.mono ?_
          rintro e w3 ⟨rfl, hb3⟩
          have S4 := Lib.hid (S3.out.grow hb3)
          clear S3 hb3 htx3
          go_wp2_with fail
          go_ret2
          have e1 := hR2.out
          subst e1
          exact ⟨_, _, rfl, S4.out.pick [1] rfl⟩

set_option maxHeartbeats 1000000 in
theorem specParseClause_any (vars : Int) (s : ByteArray) (w : World) (hs : s.size ≤ 900000) :
    Calls Tryz.prog 32 #[.int .i64 vars, .string s] w (PCPost (parC vars (bl s)) w) := by
  have hcall := Lib.hid (l2Parse_any vars s w hs)
  unfold PCPost at hcall
  go_enter Tryz.func32, Tryz.ntmps32
  go_wp2_with fail
  refine hcall.out.mono ?_
  rintro e w1 ⟨B, c, rfl, S⟩
  replace S := Lib.hid S
  go_wp2_with fail
  go_ret2
  exact ⟨_, _, rfl, S.out⟩
end Go.Proofs.YtahbepajeplcmaaGreatDoor

/- Contract: a Cnf read from a text, in the reference, to the word. Printed by gen_cxd.py out of TxE. -/
namespace Go.Proofs.YtahbepajeplcmaaGreatDoor
open Go.RowKit

/-- A Cnf of its own, and whether there is one. -/
def CnfP (r : (Int × List (List Int)) × Bool) (w : World) (e : Ending) (w' : World) : Prop := ∃ (B : Option Addr) (cap : Nat) (cs : List Value), e = .returned (.tuple #[.agg #[.int .i64 r.1.1, .slice B r.1.2.length cap], .bool r.2]) ∧
  Sp w w' [Rows Ty.int 43 (.slice B r.1.2.length cap) cs r.1.2]
theorem cnfP_no {R : (Int × List (List Int)) × Bool} {w w' : World} (h : R = ((0, []), false)) (hb : Below w.heap.size w w') : CnfP R w (.returned (.tuple #[.agg #[.int .i64 0, .slice none 0 0], .bool false])) w' := by
  subst h
  exact ⟨none, 0, [], rfl, (Sp.of_below hb).rows_nil _ _⟩
theorem cnfP_yes {R : (Int × List (List Int)) × Bool} {vars : Int} {xss : List (List Int)} {B : Option Addr} {cap : Nat} {cs : List Value} {w w' : World} (h : R = if true = true then ((vars, xss), true) else ((0, []), false)) (hS : Sp w w' [Rows Ty.int 43 (.slice B xss.length cap) cs xss]) :
    CnfP R w (.returned (.tuple #[.agg #[.int .i64 vars, .slice B xss.length cap], .bool true])) w' := by
  rw [if_pos rfl] at h
  subst h
  exact ⟨B, cap, cs, rfl, hS⟩
theorem pcn_out {L : List Int} {ok : Bool} {w w' : World} {e : Ending} (h : PCPost (L, ok) w e w') : ∃ B c, e = .returned (.tuple #[.slice B L.length c, .bool ok]) ∧ Sp w w' [Own 3 1 (.slice B L.length c) L.length (L.map (.int .i64))] := h
theorem bl_headN {p : ByteArray} (h : 0 < p.size) : bl p = p[0] :: (bl p).tail := by
  obtain ⟨⟨l⟩⟩ := p
  cases l with
  | nil => exact absurd h (by decide)
  | cons c r => rfl
theorem bl_tailN {p : ByteArray} : bl (p.extract 1 p.size) = (bl p).tail := by
  rw [bl_extract]
  have : ((bl p).drop 1).length ≤ p.size - 1 := by rw [List.length_drop, bl_length]; omega
  rw [List.take_of_length_le this, List.drop_one]
theorem par_i64 {vars : Int} {s : List UInt8} {c : List Int} {q : Bool} (h : parC vars s = (c, q)) : ∀ x ∈ c, I64 x := by
  cases q
  · rw [par_no h]; simp
  · exact fun x hx => by have := clause_small (text_par h).2 x hx; unfold I64; omega
theorem partsN_mild {vars : Int} (ps : List (List UInt8)) {xss : List (List Int)} (h : PartsR vars ps ps.length xss) : MildC xss := fun c hc => by
  have h3 := h.full.2 c hc
  exact ⟨fun x hx => by have := clause_small h3 x hx; omega, by have := clause_len h3; omega⟩

set_option maxRecDepth 100000 in
set_option maxHeartbeats 2000000 in
theorem specParseCnf_any (s : ByteArray) (w : World) (hs : s.size ≤ 100000) : Calls Tryz.prog 43 #[.string s] w (CnfP (parN (bl s)) w) := by
  obtain ⟨p0, pr, hpp⟩ := List.exists_cons_of_ne_nil (splitP_ne 59 (bl s))
  have hnum := Lib.hid (fun h => one_num hpp h)
  have hvar := Lib.hid (fun v hv h => one_vars (v := v) hpp hv h)
  have hlong := Lib.hid (fun h => one_long hpp h)
  have hhead := Lib.hid (fun k hk h => one_head (k := k) hpp hk h)
  have hpart := Lib.hid (fun v hv k hk h => one_part (v := v) (k := k) hpp hv hk h)
  have hend := Lib.hid (fun v cs hv hin hl h => one_end (v := v) (cs := cs) hpp hv hin hl h)
  have hsl := splitP_len 59 (bl s)
  rw [bl_length, hpp, List.length_cons] at hsl
  have hpsz := Lib.hid (split_part_len 59 (bl s))
  have hspl := Lib.hid (fun W => l1SplitO_any s 59 W (by omega))
  have hbs : Hid ((bl s).length = s.size) := bl_length s
  unfold SplitPostO at hspl
  rw [hpp] at hspl hpsz
  obtain ⟨R, hRR⟩ : ∃ R, parN (bl s) = R := ⟨_, rfl⟩
  rw [hRR] at hnum hvar hlong hhead hpart hend ⊢
  clear hRR hpp
  have S0 := Lib.hid ((Sp.start w).alloc_box #[.int .i64 0, .slice none 0 0] 61)
  obtain ⟨i0, hi, hz0, hz1, hz2⟩ := info_parts infoRow
  go_enter Tryz.func43, Tryz.ntmps43
  go_wp2_with fail
  refine (hspl.out _).mono ?_
  rintro e w1 ⟨v1, ps, rfl, ho1, hmap, hb1⟩
  have hpl : ps.length = pr.length + 1 := by have := congrArg List.length hmap; simpa using this
  have hps0 : 0 < ps.length := by omega
  have S1 : Sp w w1 [Own 9 1 v1 ps.length (ps.map .string), Box w.heap.size 61 #[.int .i64 0, .slice none 0 0]] := S0.out.own_call hb1 ho1
  obtain ⟨PB, pc, rfl⟩ := own_slice ho1
  have HL : ∀ x ∈ ps, x.size ≤ s.size := fun x hx => by
    have := hpsz.out (bl x) (hmap ▸ List.mem_map_of_mem hx)
    rw [hbs.out, bl_length] at this
    exact this
  have hp0 : bl ps[0] = p0 := by
    have : (ps.map bl)[0]'(by rw [List.length_map]; omega) = p0 := by simp only [hmap, List.getElem_cons_zero]
    rw [List.getElem_map] at this
    exact this
  have hpk : Hid (∀ k (hk : k < pr.length) (h2 : k + 1 < ps.length), bl (ps[k + 1]'h2) = pr[k]) := fun k hk h2 => by
    have : (ps.map bl)[k + 1]'(by rw [List.length_map]; omega) = pr[k] := by simp only [hmap, List.getElem_cons_succ]
    rw [List.getElem_map] at this
    exact this
  clear hmap ho1 hb1
  replace hpl := Lib.hid hpl
  obtain ⟨pb, po, rfl, m0⟩ := strs_own (S1.own (i := 0) rfl) hps0
  rw [Nat.add_zero] at m0
  replace S1 := Lib.hid S1
  have hsz := HL _ (List.getElem_mem hps0)
  have hrd := Lib.hid (fun W => l1Read_any ps[0] W (by omega))
  rw [hp0] at hrd
  replace HL := Lib.hid HL
  obtain ⟨⟨vars, q0⟩, hv0⟩ : ∃ r, numB p0 = r := ⟨_, rfl⟩
  rw [hv0] at hrd
  replace hv0 := Lib.hid hv0
  generalize ps[0] = t0 at *
  clear S0 hp0 hspl
  go_wp2_with fail
  refine (hrd.out _).mono ?_
  rintro e w2 ⟨rfl, hb2⟩
  have S2 := Lib.hid (S1.out.grow hb2)
  clear S1 hrd hb2 m0 hsz
  go_upto_region 3 with fail
  go_cut [31] (fun v wx => ∃ q : Bool, v = .bool q ∧ Hid (q = true → R = ((0, []), false)) ∧ Hid (q = false → inB vars 0 12 = true ∧ ps.length ≤ 61 ∧ q0 = true) ∧ Hid (Sp w wx [Own 9 1 (.slice (some ⟨pb, po, none⟩) ps.length pc) ps.length (ps.map .string), Box w.heap.size 61 #[.int .i64 0, .slice none 0 0]]))
  case first =>
    cases q0
    · go_wp2_with fail
      go_meet
      exact ⟨true, rfl, fun _ => hnum.out (by rw [hv0.out]), (fun e => by cases e), S2⟩
    · obtain ⟨q1, hq1⟩ : ∃ q, inB vars 0 12 = q := ⟨_, rfl⟩
      go_wp2_with fail
      refine (l2Vars_any _ _).mono ?_
      rw [hq1]
      rintro e w3 ⟨rfl, rfl⟩
      cases q1
      · go_wp2_with fail
        go_meet
        exact ⟨true, rfl, fun _ => hvar.out _ hv0.out hq1, (fun e => by cases e), S2⟩
      · by_cases h61 : (61 : Int) < (ps.length : Int)
        · have d1 : decide ((61 : Int) < (ps.length : Int)) = true := decide_eq_true h61
          go_wp2_with fail
          go_meet
          exact ⟨true, rfl, fun _ => hlong.out (by have := hpl.out; omega), (fun e => by cases e), S2⟩
        · have d1 : decide ((61 : Int) < (ps.length : Int)) = false := decide_eq_false h61
          go_wp2_with fail
          go_meet
          exact ⟨false, rfl, (fun e => by cases e), fun _ => ⟨hq1, by omega, by trivial⟩, S2⟩
  case rest =>
  clear S2
  obtain ⟨q, rfl, hqt, hq, S2⟩ := hcut
  cases q
  case true =>
    have r0 := S2.out.cell (i := 1) rfl (o := 0) rfl
    have r1 := S2.out.cell (i := 1) rfl (o := 1) rfl
    have f0 := S2.out.frozen (i := 1) rfl 0
    have f1 := S2.out.frozen (i := 1) rfl 1
    have SF := (S2.out.store (i := 1) rfl 0 (.int .i64 0)).store (i := 1) rfl 1 (.slice none 0 0)
    have j0 := SF.cell (i := 1) rfl (o := 0) rfl
    have j1 := SF.cell (i := 1) rfl (o := 1) rfl
    have hB := Lib.hid SF.below
    clear SF
    go_wp2_with fail
    exact bodyPost_ret (v := .tuple #[.agg #[.int .i64 0, .slice none 0 0], .bool false]) (by simp [results, Tryz.results43, go_sem, j0, j1]) rfl (cnfP_no (hqt.out (by trivial)) hB.out)
  case false =>
  obtain ⟨hv12, hp61, rfl⟩ := hq.out rfl
  have hvv : 0 ≤ vars ∧ vars ≤ 12 := by unfold inB at hv12; simpa using hv12
  replace hv12 := Lib.hid hv12
  clear hq hqt hnum hvar hlong
  have S3 := (S2.out.rows_made Ty.int 43).alloc_box #[.int .i64 vars, .slice (some ⟨wc.heap.size, 0, none⟩) 0 0] 61
  simp only [World.size_alloc] at S3
  obtain ⟨ob, hob⟩ : ∃ ob, wc.heap.size + 1 = ob := ⟨_, rfl⟩
  rw [hob] at S3
  have S4 : Hid (Sp w _ [Rows Ty.int 43 (.slice (some ⟨wc.heap.size, 0, none⟩) ([] : List (List Int)).length 0) [] ([] : List (List Int)), Box ob 61 #[.int .i64 vars, .slice (some ⟨wc.heap.size, 0, none⟩) ([] : List (List Int)).length 0], Own 9 1 (.slice (some ⟨pb, po, none⟩) ps.length pc) ps.length (ps.map .string), Box w.heap.size 61 #[.int .i64 0, .slice none 0 0]]) := S3.swap
  clear S2 S3
  go_wp2_with fail
  go_loopw [8, 9, 10] (fun vi _ _ wr => ∃ (xss : List (List Int)) (cs : List Value) (B : Option Addr) (cap : Nat) (i : Int), xss.length + 1 ≤ ps.length ∧ vi = .int .i64 i ∧ Hid (i = (xss.length : Int) + 1) ∧ Hid (PartsR vars (pr.map List.tail) xss.length xss) ∧ Hid (Sp w wr [Rows Ty.int 43 (.slice B xss.length cap) cs xss, Box ob 61 #[.int .i64 vars, .slice B xss.length cap], Own 9 1 (.slice (some ⟨pb, po, none⟩) ps.length pc) ps.length (ps.map .string), Box w.heap.size 61 #[.int .i64 0, .slice none 0 0]])) (fun vi _ _ _ => ps.length - (intOf vi).toNat)
  case atStart => exact ⟨[], [], _, _, 1, by simp; omega, rfl, rfl, PartsR.nil _ _, S4⟩
  case round =>
    obtain ⟨xss, cs, B, cap, i, hk, rfl, hie, HC, HS⟩ := hrel
    clear S4
    have hie' := hie.out
    by_cases hlt : xss.length + 1 < ps.length
    · have hil : i < (ps.length : Int) := by omega
      have hi0 : 0 ≤ i := by omega
      have hiw : IntKind.i64.wrap (i + 1) = i + 1 := IntWalk.i64_in _ (by omega)
      obtain ⟨j, hj⟩ : ∃ j : Nat, i = (j : Int) := ⟨i.toNat, by omega⟩
      have hjl : j < ps.length := by omega
      obtain ⟨b', o', e', m0⟩ := strs_own (HS.out.own (i := 2) rfl) hjl
      cases e'
      have hsz := HL.out _ (List.getElem_mem hjl)
      subst hj
      have hjx : Hid (j = xss.length + 1) := by unfold Hid; omega
      have hxl : xss.length < pr.length := by have := hpl.out; omega
      have hpj : Hid (bl ps[j] = pr[xss.length]) := by
        unfold Hid
        have := hpk.out xss.length hxl (by omega)
        simp only [hjx.out]
        exact this
      have hhk := Lib.hid (hhead.out xss.length hxl)
      have hpt := Lib.hid (hpart.out vars hv0.out xss.length hxl)
      have hnx := Lib.hid (fun c h => HC.out.next (c := c) (by rw [List.length_map]; exact hxl) h)
      simp only [List.getElem_map] at hnx
      rw [← hpj.out] at hhk hpt hnx
      clear hie hie' hi0
      generalize ps[j] = p at *
      go_upto_region 9 with fail
      go_cut [55] (fun v wx => ∃ q : Bool, v = .bool q ∧ Hid (q = true → R = ((0, []), false)) ∧ Hid (q = false → 2 ≤ p.size) ∧ wx = wr)
      case first =>
        by_cases h2 : (p.size : Int) < 2
        · have d1 : decide ((p.size : Int) < 2) = true := decide_eq_true h2
          go_wp2_with fail
          go_meet
          exact ⟨true, rfl, fun _ => hhk.out (.inl (by rw [bl_length]; omega)), (fun e => by cases e), rfl⟩
        · have d1 : decide ((p.size : Int) < 2) = false := decide_eq_false h2
          have h0 : 0 < p.size := by omega
          go_wp2_with fail
          go_meet
          exact ⟨_, rfl, fun hne => hhk.out (.inr fun r hr => by
            rw [bl_headN h0] at hr
            have h32 : p[0] = 32 := (List.cons.inj hr).1
            rw [h32] at hne
            simp at hne), fun _ => by omega, rfl⟩
      case rest =>
      obtain ⟨q, rfl, hqt, hq, hw3⟩ := hcut
      subst hw3
      cases q
      case true =>
        have r0 := HS.out.cell (i := 3) rfl (o := 0) rfl
        have r1 := HS.out.cell (i := 3) rfl (o := 1) rfl
        have f0 := HS.out.frozen (i := 3) rfl 0
        have f1 := HS.out.frozen (i := 3) rfl 1
        have SF := (HS.out.store (i := 3) rfl 0 (.int .i64 0)).store (i := 3) rfl 1 (.slice none 0 0)
        have j0 := SF.cell (i := 3) rfl (o := 0) rfl
        have j1 := SF.cell (i := 3) rfl (o := 1) rfl
        have hB := Lib.hid SF.below
        clear SF
        go_wp2_with fail
        exact bodyPost_ret (v := .tuple #[.agg #[.int .i64 0, .slice none 0 0], .bool false]) (by simp [results, Tryz.results43, go_sem, j0, j1]) rfl (cnfP_no (hqt.out (by trivial)) hB.out)
      case false =>
      have h2 := hq.out rfl
      have h2' : (1 : Int) ≤ (p.size : Int) := by omega
      have hx := ext_size p 1 p.size (Nat.le_refl _)
      have hpa := Lib.hid (fun W => l2Parse_any vars (p.extract 1 p.size) W (by omega))
      obtain ⟨⟨c, qc⟩, hpc⟩ : ∃ r, parC vars (bl p).tail = r := ⟨_, rfl⟩
      rw [bl_tailN, hpc] at hpa
      have hpt2 := Lib.hid (fun h => hpt.out (by rw [hpc]; exact h))
      have hnx2 := Lib.hid (fun (h : qc = true) => hnx.out c (by rw [hpc, h]))
      have hcw : ∀ x ∈ c, I64 x := par_i64 hpc
      clear hq hx hqt hhk hpt hnx hpc
      go_wp2_with fail
      refine (hpa.out _).mono ?_
      rintro e w4 hpcp
      obtain ⟨Bc, kc, rfl, T4⟩ := pcn_out hpcp
      have S4 := HS.out.seq T4
      have S5 := Lib.hid (S4.own_to_row hcw)
      clear HS S4 T4 hpa m0 hpcp
      cases qc
      case false =>
        have r0 := S5.out.cell (i := 4) rfl (o := 0) rfl
        have r1 := S5.out.cell (i := 4) rfl (o := 1) rfl
        have f0 := S5.out.frozen (i := 4) rfl 0
        have f1 := S5.out.frozen (i := 4) rfl 1
        have SF := (S5.out.store (i := 4) rfl 0 (.int .i64 0)).store (i := 4) rfl 1 (.slice none 0 0)
        have j0 := SF.cell (i := 4) rfl (o := 0) rfl
        have j1 := SF.cell (i := 4) rfl (o := 1) rfl
        have hB := Lib.hid SF.below
        clear SF
        go_wp2_with fail
        exact bodyPost_ret (v := .tuple #[.agg #[.int .i64 0, .slice none 0 0], .bool false]) (by simp [results, Tryz.results43, go_sem, j0, j1]) rfl (cnfP_no (hpt2.out (by trivial)) hB.out)
      case true =>
      have l1 := S5.out.cell (i := 2) rfl (o := 1) rfl
      have hrows := Lib.hid ((S5.out.rows (i := 1) rfl).alloc (.cells #[.slice Bc c.length kc] 43))
      have hbl := (S5.out.box (i := 2) rfl).2.1
      have l1a := ((bcell (bal (bb w4) (.cells #[.slice Bc c.length kc] 43))).1 _ 1 hbl).trans l1
      have kB : (w4.alloc (.cells #[.slice Bc c.length kc] 43)).cell? ⟨w4.heap.size, 0, none⟩ = some (.slice Bc c.length kc) := cell_of_row _ _ _ _ _ _ (heap_alloc_new w4 _)
      go_wp2_with (at_builtin; refine wpList_append_src rfl _ _ rfl Tryz.underlying59 hi hz0 hz1 hz2 rfl (by decide) _ xss.length _ rfl hrows.out _ 1 1 [.slice Bc c.length kc] rfl (Src.one kB) (by simp [Value.oneCell']) ?c3 ?c4 ?_)
      case c3 => unfold maxLen; omega
      case c4 => omega
      intro vY wY hownY hgY hatY
      have S6 := S5.out.rows_push (bal (bb _) _) hownY hgY (by simpa using hatY)
      obtain ⟨aY, cY, rfl⟩ := own_slice hownY
      have b1 := S6.cell (i := 1) rfl (o := 1) rfl
      have q1 := S6.frozen (i := 1) rfl 1
      have hlen : xss.length + 1 = (xss ++ [c]).length := by simp
      have S7 : Hid (Sp w (wY.setCell ⟨ob, 1, none⟩ (.slice aY (xss.length + 1) cY)) [Rows Ty.int 43 (.slice aY (xss ++ [c]).length cY) (cs ++ [.slice Bc c.length kc]) (xss ++ [c]), Box ob 61 #[.int .i64 vars, .slice aY (xss ++ [c]).length cY], Own 9 1 (.slice (some ⟨pb, po, none⟩) ps.length pc) ps.length (ps.map .string), Box w.heap.size 61 #[.int .i64 0, .slice none 0 0]]) := by
        unfold Hid; rw [← hlen]
        have := S6.store (i := 1) rfl 1 (.slice aY (xss.length + 1) cY)
        rw [hlen] at this ⊢
        exact this
      have HC2 : Hid (PartsR vars (pr.map List.tail) (xss ++ [c]).length (xss ++ [c])) := by
        rw [← hlen]; exact hnx2.out (by trivial)
      clear S5 S6 hrows hownY hgY hatY kB l1 l1a hbl
      replace hlen := Lib.hid hlen
      go_wp2_with fail
      go_roundw
      case rel => exact ⟨xss ++ [c], cs ++ [.slice Bc c.length kc], aY, cY, (j : Int) + 1, by have := hlen.out; omega, rfl, by unfold Hid; have := hlen.out; have := hjx.out; omega, HC2, S7⟩
      case measure => have := hjx.out; simp [intOf]; omega
    · have hil : ¬ i < (ps.length : Int) := by omega
      clear hie hie'
      obtain ⟨F, hr, hFn, hF0⟩ := HS.out.rows_done (i := 0) rfl
      obtain ⟨A', c', e', hI⟩ := cls_row hr
      cases e'
      have l0 := HS.out.cell (i := 1) rfl (o := 0) rfl
      have l1 := HS.out.cell (i := 1) rfl (o := 1) rfl
      have hpl2 : xss.length = pr.length := by have := hpl.out; omega
      have HC3 : PartsR vars (pr.map List.tail) pr.length xss := by have := HC.out; rw [hpl2] at this; exact this
      have hen := hend.out vars xss hv0.out hv12.out (by have := hpl.out; omega) HC3
      have hml : MildC xss := partsN_mild (pr.map List.tail) (by rw [List.length_map]; exact HC3)
      have htx := Lib.hid (l2TextOfN_any vars (by omega) xss hml (by omega) B cap wr hI)
      generalize cnfT vars xss = T at *
      replace hen := Lib.hid hen
      clear hI hr hF0 hFn HC3 hml hpl2
      go_wp2_with fail
      refine htx.out.mono ?_
      rintro e w5 ⟨rfl, hb5⟩
      have S5 := Lib.hid (HS.out.grow hb5)
      clear HS htx hb5 l0 l1
      obtain ⟨q, hq⟩ : ∃ q, (T == bl s) = q := ⟨_, rfl⟩
      rw [hq] at hen
      cases q
      · have r0 := S5.out.cell (i := 3) rfl (o := 0) rfl
        have r1 := S5.out.cell (i := 3) rfl (o := 1) rfl
        have f0 := S5.out.frozen (i := 3) rfl 0
        have f1 := S5.out.frozen (i := 3) rfl 1
        have SF := (S5.out.store (i := 3) rfl 0 (.int .i64 0)).store (i := 3) rfl 1 (.slice none 0 0)
        have j0 := SF.cell (i := 3) rfl (o := 0) rfl
        have j1 := SF.cell (i := 3) rfl (o := 1) rfl
        have hB := Lib.hid SF.below
        clear SF
        go_wp2_with fail
        exact bodyPost_ret (v := .tuple #[.agg #[.int .i64 0, .slice none 0 0], .bool false]) (by simp [results, Tryz.results43, go_sem, j0, j1]) rfl (cnfP_no hen.out hB.out)
      · have l0 := S5.out.cell (i := 1) rfl (o := 0) rfl
        have l1 := S5.out.cell (i := 1) rfl (o := 1) rfl
        have r0 := S5.out.cell (i := 3) rfl (o := 0) rfl
        have r1 := S5.out.cell (i := 3) rfl (o := 1) rfl
        have f0 := S5.out.frozen (i := 3) rfl 0
        have f1 := S5.out.frozen (i := 3) rfl 1
        have SF := (S5.out.store (i := 3) rfl 0 (.int .i64 vars)).store (i := 3) rfl 1 (.slice B xss.length cap)
        have j0 := SF.cell (i := 3) rfl (o := 0) rfl
        have j1 := SF.cell (i := 3) rfl (o := 1) rfl
        have hR := Lib.hid (Sp.front (qs := [_]) SF)
        clear SF S5
        go_wp2_with fail
        exact bodyPost_ret (v := .tuple #[.agg #[.int .i64 vars, .slice B xss.length cap], .bool true]) (by simp [results, Tryz.results43, go_sem, j0, j1]) rfl (cnfP_yes hen.out hR.out)
end Go.Proofs.YtahbepajeplcmaaGreatDoor

/- Contract: a Cnf read from a text, in the program. -/
namespace Go.Proofs.YtahbepajeplcmaaGreatDoor
open Go.RowKit

theorem splitK_part (sep : List UInt8) : ∀ (k : Nat) (l : List UInt8), ∀ p ∈ Lib.splitK sep 0 k l, p.length ≤ l.length
  | 0, l, p, h => by
    rw [Lib.splitK] at h
    rw [List.mem_singleton.1 h]
    exact Nat.le_refl _
  | k + 1, l, p, h => by
    rw [Lib.splitK] at h
    split at h
    · rw [List.mem_singleton.1 h]
      exact Nat.le_refl _
    · rcases List.mem_cons.1 h with rfl | h
      · rw [List.length_take]; omega
      · have := splitK_part sep k _ p h
        rw [List.length_drop] at this
        omega
theorem splitK_len (sep : List UInt8) : ∀ (k : Nat) (l : List UInt8), (Lib.splitK sep 0 k l).length ≤ k + 1
  | 0, l => by rw [Lib.splitK]; simp
  | k + 1, l => by
    rw [Lib.splitK]
    split
    · simp
    · have := splitK_len sep k (l.drop ((Lib.index l sep).toNat + sep.length))
      rw [List.length_cons]; omega
theorem split2_len (l : List UInt8) : (Lib.split l sep2).length ≤ l.length + 2 := by
  have h1 := splitK_len sep2 (Lib.count l sep2) l
  have h2 := Lib.count_le l sep2
  unfold Lib.split
  omega
theorem split2_part (l : List UInt8) : ∀ p ∈ Lib.split l sep2, p.length ≤ l.length := splitK_part _ _ _
/-- strings.Split at a semicolon and a space. -/
theorem split2_any (s : ByteArray) (w : World) (hE : Env w) (hs : s.size ≤ 1000000) :
    Calls Tryz.prog 65 #[.string s, .string ⟨#[59, 32]⟩] w fun e w' => ∃ (x : ByteArray) (xs : List ByteArray), e = .returned (.slice (some ⟨w.heap.size, 0, none⟩) (xs.length + 1) (xs.length + 1)) ∧ Lib.split (bl s) sep2 = bl x :: xs.map bl ∧ WordsAt w' w.heap.size (x :: xs) ∧ Below w.heap.size w w' := by
  obtain ⟨m, hm⟩ := hE.maxlen
  obtain ⟨ys, hxs⟩ : ∃ ys, Lib.splitB ⟨#[59, 32]⟩ 0 (Lib.countB s ⟨#[59, 32]⟩) s = ys := ⟨_, rfl⟩
  have hlen : ys.length = Lib.countB s ⟨#[59, 32]⟩ + 1 := by rw [← hxs]; exact Lib.splitB_all ⟨#[59, 32]⟩ (by decide) 0 _ _ rfl
  have hmap : Lib.split (bl s) sep2 = ys.map bl := by
    rw [← hxs]
    exact (Lib.splitB_data ⟨#[59, 32]⟩ 0 (Lib.countB s ⟨#[59, 32]⟩) s).symm
  have hC := (Tryz.strings_Split s ⟨#[59, 32]⟩ m w (by omega) hm (by decide))
  rw [hxs, ← hlen] at hC
  obtain ⟨x, xs, rfl⟩ := List.exists_cons_of_ne_nil (show ys ≠ [] by intro h; rw [h] at hlen; simp at hlen)
  refine hC.mono ?_
  rintro e w1 ⟨rfl, rfl⟩
  refine ⟨x, xs, rfl, hmap, fun j hj => ?_, bal (bb _) _⟩
  have := heap_alloc_new w (.cells ((x :: xs).map Value.string).toArray 9)
  rw [cell_of_row _ _ _ _ _ _ this]
  rw [List.getElem?_toArray, List.getElem?_map, List.getElem?_eq_getElem hj]
  rfl

set_option maxRecDepth 100000 in
set_option maxHeartbeats 8000000 in
theorem implParseCnf_any (s : ByteArray) (w : World) (hE : NumEnv w) (hs : s.size ≤ 100000) : Calls Tryz.prog 40 #[.string s] w (CnfP (parN (bl s)) w) := by
  have S0 := (Sp.start w).alloc_box #[.int .i64 0, .slice none 0 0] 61
  have hEb := Lib.hid (hE.grow S0.below)
  have hspl := split2_any s _ hEb.out.env (by omega)
  replace S0 := Lib.hid S0
  replace hspl := Lib.hid hspl
  obtain ⟨i0, hi, hz0, hz1, hz2⟩ := info_parts infoRow
  have hnum := Lib.hid (fun p0 pr hpp h => two_num (s := bl s) (p0 := p0) (ps := pr) hpp h)
  have hpart := Lib.hid (fun p0 pr hpp v hv k hk h => two_part (s := bl s) (p0 := p0) (ps := pr) (v := v) (k := k) hpp hv hk h)
  have hend := Lib.hid (fun p0 pr hpp v cs hv h => two_end (s := bl s) (p0 := p0) (ps := pr) (v := v) (cs := cs) hpp hv h)
  have hsl := split2_len (bl s)
  rw [bl_length] at hsl
  have hpsz := Lib.hid (split2_part (bl s))
  have hbs : Hid ((bl s).length = s.size) := bl_length s
  obtain ⟨R, hRR⟩ : ∃ R, parN (bl s) = R := ⟨_, rfl⟩
  rw [hRR] at hnum hpart hend ⊢
  obtain ⟨pp, hpp⟩ : ∃ pp, Lib.split (bl s) sep2 = pp := ⟨_, rfl⟩
  rw [hpp] at hnum hpart hend hsl hpsz hspl
  clear hRR hpp hE
  go_enter Tryz.func40, Tryz.ntmps40
  go_wp2_with fail
  refine hspl.out.mono ?_
  rintro e w1 ⟨x0, xs, rfl, rfl, HW, hb1⟩
  have S1 := Lib.hid (S0.out.grow hb1)
  have hE1 := Lib.hid (hEb.out.grow hb1)
  obtain ⟨g, hg⟩ : ∃ g, (w.alloc (.cells #[.int .i64 0, .slice none 0 0] 61)).heap.size = g := ⟨_, rfl⟩
  rw [hg] at HW ⊢
  rw [List.length_cons, List.length_map] at hsl
  replace hnum := Lib.hid (hnum.out _ _ rfl)
  replace hpart := Lib.hid (hpart.out _ _ rfl)
  replace hend := Lib.hid (hend.out _ _ rfl)
  have m0 := HW 0 (by simp)
  simp only [List.getElem_cons_zero] at m0
  have hsz0 : x0.size ≤ s.size := by
    have := hpsz.out (bl x0) (by simp)
    rw [hbs.out, bl_length] at this
    exact this
  have hmx : Hid (∀ j (hj : j < xs.length), w1.cell? ⟨g, j + 1, none⟩ = some (.string xs[j]) ∧ xs[j].size ≤ s.size) := fun j hj => by
    have h1 := HW (j + 1) (by simp; omega)
    simp only [List.getElem_cons_succ] at h1
    have := hpsz.out (bl xs[j]) (List.mem_cons_of_mem _ (List.mem_map_of_mem (List.getElem_mem hj)))
    rw [hbs.out, bl_length] at this
    exact ⟨h1, this⟩
  have hrd := Lib.hid (implParse_any x0 w1 hE1.out (by omega))
  obtain ⟨⟨vars, q0⟩, hv0⟩ : ∃ r, numB (bl x0) = r := ⟨_, rfl⟩
  rw [hv0] at hrd hnum hpart hend
  clear HW S0 hspl hEb hb1 hg
  go_wp2_with fail
  refine hrd.out.mono ?_
  rintro e w2 ⟨rfl, hb2⟩
  have S2 := Lib.hid (S1.out.grow hb2)
  have hE2 := Lib.hid (hE1.out.grow hb2)
  have hmy : Hid (∀ j (hj : j < xs.length), w2.cell? ⟨g, j + 1, none⟩ = some (.string xs[j]) ∧ xs[j].size ≤ s.size) := fun j hj => by
    obtain ⟨h1, h2⟩ := hmx.out j hj
    exact ⟨(hb2.cell (World.block_lt_of_cell? _ _ h1)).trans h1, h2⟩
  clear S1 hE1 hmx m0 hrd hb2 hsz0 hpsz hbs
  cases q0
  case false =>
    have hR := Lib.hid (hnum.out rfl)
    have r0 := S2.out.cell (i := 0) rfl (o := 0) rfl
    have r1 := S2.out.cell (i := 0) rfl (o := 1) rfl
    have f0 := S2.out.frozen (i := 0) rfl 0
    have f1 := S2.out.frozen (i := 0) rfl 1
    have SF := (S2.out.store (i := 0) rfl 0 (.int .i64 0)).store (i := 0) rfl 1 (.slice none 0 0)
    have j0 := SF.cell (i := 0) rfl (o := 0) rfl
    have j1 := SF.cell (i := 0) rfl (o := 1) rfl
    have hB := Lib.hid SF.below
    clear SF
    go_wp2_with fail
    exact bodyPost_ret (v := .tuple #[.agg #[.int .i64 0, .slice none 0 0], .bool false]) (by simp [results, Tryz.results40, go_sem, j0, j1]) rfl (cnfP_no hR.out hB.out)
  case true =>
  have S3 : Hid (Sp w2 _ [Rows Ty.int 43 (.slice none ([] : List (List Int)).length 0) [] ([] : List (List Int)), Box w2.heap.size 61 #[.int .i64 vars, .slice none ([] : List (List Int)).length 0]]) := (((Sp.start w2).rows_nil Ty.int 43).alloc_box #[.int .i64 vars, .slice none 0 0] 61).swap
  obtain ⟨ob, hob⟩ : ∃ ob, w2.heap.size = ob := ⟨_, rfl⟩
  rw [hob] at S3
  replace hv0 := Lib.hid hv0
  clear hnum
  by_cases hx0 : xs = []
  · go_wp2_with fail
    go_loopw [9, 10, 11, 29] (fun _ _ _ vi wr => ∃ (k : Nat) (xss : List (List Int)) (cs : List Value) (B : Option Addr) (cap : Nat), k ≤ xs.length ∧ vi = .int .i64 k ∧ Hid (xss.length = k) ∧ Hid (PartsR vars (xs.map bl) k xss) ∧ Hid (Sp w2 wr [Rows Ty.int 43 (.slice B xss.length cap) cs xss, Box ob 61 #[.int .i64 vars, .slice B xss.length cap]])) (fun _ _ _ vi _ => xs.length - (intOf vi).toNat)
    case atStart => exact ⟨0, [], [], none, 0, Nat.zero_le _, rfl, rfl, PartsR.nil _ _, S3⟩
    case round =>
      obtain ⟨k, xss, cs, B, cap, hk, rfl, hxk, HC, HS⟩ := hrel
      clear S3
      by_cases hlt : k < xs.length
      · exact absurd hlt (by simp [hx0])
      · obtain rfl : k = xs.length := by omega
        have hen := hend.out vars xss rfl (by rw [List.length_map]; exact HC.out)
        clear HC hlt hx0
        obtain ⟨F, hr, hFn, hF0⟩ := HS.out.rows_done (i := 0) rfl
        have l0 := HS.out.cell (i := 1) rfl (o := 0) rfl
        have l1 := HS.out.cell (i := 1) rfl (o := 1) rfl
        have hgo := Lib.hid (implIsCnf_any vars _ xss F wr (Ty.row_down hr))
        have S5 := S2.out.seq HS.out
        have r0 := S5.cell (i := 2) rfl (o := 0) rfl
        have r1 := S5.cell (i := 2) rfl (o := 1) rfl
        replace S5 := Lib.hid S5
        obtain ⟨q, hq⟩ : ∃ q, goodB vars xss = q := ⟨_, rfl⟩
        rw [hq] at hgo hen
        replace hen := Lib.hid hen
        clear hr hFn hF0 HS hq
        go_wp2_with fail
        refine hgo.out.mono ?_
        rintro e w5 ⟨rfl, hb5⟩
        have S6 := Lib.hid (S5.out.grow hb5)
        clear S5 hgo hb5 l0 l1 r0 r1
        have r0 := S6.out.cell (i := 2) rfl (o := 0) rfl
        have r1 := S6.out.cell (i := 2) rfl (o := 1) rfl
        have f0 := S6.out.frozen (i := 2) rfl 0
        have f1 := S6.out.frozen (i := 2) rfl 1
        have l0 := S6.out.cell (i := 1) rfl (o := 0) rfl
        have l1 := S6.out.cell (i := 1) rfl (o := 1) rfl
        cases q
        · have SF := (S6.out.store (i := 2) rfl 0 (.int .i64 0)).store (i := 2) rfl 1 (.slice none 0 0)
          have j0 := SF.cell (i := 2) rfl (o := 0) rfl
          have j1 := SF.cell (i := 2) rfl (o := 1) rfl
          have hB := Lib.hid SF.below
          clear SF
          go_wp2_with fail
          exact bodyPost_ret (v := .tuple #[.agg #[.int .i64 0, .slice none 0 0], .bool false]) (by simp [results, Tryz.results40, go_sem, j0, j1]) rfl (cnfP_no hen.out hB.out)
        · have SF := (S6.out.store (i := 2) rfl 0 (.int .i64 vars)).store (i := 2) rfl 1 (.slice B xss.length cap)
          have j0 := SF.cell (i := 2) rfl (o := 0) rfl
          have j1 := SF.cell (i := 2) rfl (o := 1) rfl
          have hR := Lib.hid (Sp.front (qs := [_]) SF)
          clear SF S6
          go_wp2_with fail
          exact bodyPost_ret (v := .tuple #[.agg #[.int .i64 vars, .slice B xss.length cap], .bool true]) (by simp [results, Tryz.results40, go_sem, j0, j1]) rfl (cnfP_yes hen.out hR.out)
  · go_wp2_with fail
    go_loopw [9, 10, 11, 29] (fun _ _ _ vi wr => ∃ (k : Nat) (xss : List (List Int)) (cs : List Value) (B : Option Addr) (cap : Nat), k ≤ xs.length ∧ vi = .int .i64 k ∧ Hid (xss.length = k) ∧ Hid (PartsR vars (xs.map bl) k xss) ∧ Hid (Sp w2 wr [Rows Ty.int 43 (.slice B xss.length cap) cs xss, Box ob 61 #[.int .i64 vars, .slice B xss.length cap]])) (fun _ _ _ vi _ => xs.length - (intOf vi).toNat)
    case atStart => exact ⟨0, [], [], none, 0, Nat.zero_le _, rfl, rfl, PartsR.nil _ _, S3⟩
    case round =>
      obtain ⟨k, xss, cs, B, cap, hk, rfl, hxk, HC, HS⟩ := hrel
      clear S3
      by_cases hlt : k < xs.length
      · clear hx0
        obtain ⟨m1, hs1⟩ := hmy.out k hlt
        have m2 := (HS.out.below.cell (World.block_lt_of_cell? _ _ m1)).trans m1
        rw [Nat.add_comm k 1] at m2
        have hkb : k < (xs.map bl).length := by rw [List.length_map]; exact hlt
        obtain ⟨⟨c, qc⟩, hpc⟩ : ∃ r, parC vars (xs.map bl)[k] = r := ⟨_, rfl⟩
        have hpa := implParseClause_any vars xs[k] wr (hE2.out.grow HS.out.below) (by omega)
        have hbx : bl xs[k] = (xs.map bl)[k] := by rw [List.getElem_map]
        rw [hbx, hpc] at hpa
        replace hpa := Lib.hid hpa
        have hpt := Lib.hid (fun h => hpart.out vars rfl k hkb h)
        rw [hpc] at hpt
        have hnx := Lib.hid (fun (h : qc = true) => HC.out.next (c := c) hkb (by rw [hpc, h]))
        have hcw : ∀ x ∈ c, I64 x := par_i64 hpc
        obtain ⟨p, hp⟩ : ∃ p, xs[k] = p := ⟨_, rfl⟩
        rw [hp] at m2 hpa
        clear hp hbx hpc m1 hs1 HC hkb
        have hxk2 := hxk.out
        go_wp2_with fail
        refine hpa.out.mono ?_
        rintro e w4 hpcp
        obtain ⟨Bc, kc, rfl, T4⟩ := pcn_out hpcp
        have S4 := HS.out.seq T4
        have S5 := Lib.hid (S4.own_to_row hcw)
        clear HS S4 T4 hpa m2 hpcp
        cases qc
        case false =>
          have S6 := Lib.hid (S2.out.seq S5.out)
          have r0 := S6.out.cell (i := 3) rfl (o := 0) rfl
          have r1 := S6.out.cell (i := 3) rfl (o := 1) rfl
          have f0 := S6.out.frozen (i := 3) rfl 0
          have f1 := S6.out.frozen (i := 3) rfl 1
          have SF := (S6.out.store (i := 3) rfl 0 (.int .i64 0)).store (i := 3) rfl 1 (.slice none 0 0)
          have j0 := SF.cell (i := 3) rfl (o := 0) rfl
          have j1 := SF.cell (i := 3) rfl (o := 1) rfl
          have hB := Lib.hid SF.below
          clear SF
          go_wp2_with fail
          exact bodyPost_ret (v := .tuple #[.agg #[.int .i64 0, .slice none 0 0], .bool false]) (by simp [results, Tryz.results40, go_sem, j0, j1]) rfl (cnfP_no (hpt.out (by trivial)) hB.out)
        case true =>
        have l1 := S5.out.cell (i := 2) rfl (o := 1) rfl
        have hrows := Lib.hid ((S5.out.rows (i := 1) rfl).alloc (.cells #[.slice Bc c.length kc] 43))
        have hbl := (S5.out.box (i := 2) rfl).2.1
        have l1a := ((bcell (bal (bb w4) (.cells #[.slice Bc c.length kc] 43))).1 _ 1 hbl).trans l1
        have kB : (w4.alloc (.cells #[.slice Bc c.length kc] 43)).cell? ⟨w4.heap.size, 0, none⟩ = some (.slice Bc c.length kc) := cell_of_row _ _ _ _ _ _ (heap_alloc_new w4 _)
        replace hxk2 := Lib.hid hxk2
        go_wp2_with (at_builtin; refine wpList_append_src rfl _ _ rfl Tryz.underlying59 hi hz0 hz1 hz2 rfl (by decide) _ xss.length _ rfl hrows.out _ 1 1 [.slice Bc c.length kc] rfl (Src.one kB) (by simp [Value.oneCell']) ?c3 ?c4 ?_)
        case c3 => have := hxk2.out; unfold maxLen; omega
        case c4 => have := hxk2.out; omega
        intro vY wY hownY hgY hatY
        have S6 := S5.out.rows_push (bal (bb _) _) hownY hgY (by simpa using hatY)
        obtain ⟨aY, cY, rfl⟩ := own_slice hownY
        have b1 := S6.cell (i := 1) rfl (o := 1) rfl
        have q1 := S6.frozen (i := 1) rfl 1
        have hlen : xss.length + 1 = (xss ++ [c]).length := by simp
        have S7 : Hid (Sp w2 (wY.setCell ⟨ob, 1, none⟩ (.slice aY (xss.length + 1) cY)) [Rows Ty.int 43 (.slice aY (xss ++ [c]).length cY) (cs ++ [.slice Bc c.length kc]) (xss ++ [c]), Box ob 61 #[.int .i64 vars, .slice aY (xss ++ [c]).length cY]]) := by
          unfold Hid; rw [← hlen]
          have := S6.store (i := 1) rfl 1 (.slice aY (xss.length + 1) cY)
          rw [hlen] at this ⊢
          exact this
        have HC2 : Hid (PartsR vars (xs.map bl) (k + 1) (xss ++ [c])) := hnx.out (by trivial)
        have hxk3 : Hid ((xss ++ [c]).length = k + 1) := by unfold Hid; rw [← hlen, hxk2.out]
        clear S5 S6 hrows hownY hgY hatY kB l1 l1a hbl hnx hpt hxk hxk2
        replace hlen := Lib.hid hlen
        go_wp2_with fail
        go_roundw
        case rel => exact ⟨k + 1, xss ++ [c], cs ++ [.slice Bc c.length kc], aY, cY, by omega, by go_num, hxk3, HC2, S7⟩
        case measure => simp [intOf]; omega
      · obtain rfl : k = xs.length := by omega
        have hen := hend.out vars xss rfl (by rw [List.length_map]; exact HC.out)
        clear HC hlt hx0
        obtain ⟨F, hr, hFn, hF0⟩ := HS.out.rows_done (i := 0) rfl
        have l0 := HS.out.cell (i := 1) rfl (o := 0) rfl
        have l1 := HS.out.cell (i := 1) rfl (o := 1) rfl
        have hgo := Lib.hid (implIsCnf_any vars _ xss F wr (Ty.row_down hr))
        have S5 := S2.out.seq HS.out
        have r0 := S5.cell (i := 2) rfl (o := 0) rfl
        have r1 := S5.cell (i := 2) rfl (o := 1) rfl
        replace S5 := Lib.hid S5
        obtain ⟨q, hq⟩ : ∃ q, goodB vars xss = q := ⟨_, rfl⟩
        rw [hq] at hgo hen
        replace hen := Lib.hid hen
        clear hr hFn hF0 HS hq
        go_wp2_with fail
        refine hgo.out.mono ?_
        rintro e w5 ⟨rfl, hb5⟩
        have S6 := Lib.hid (S5.out.grow hb5)
        clear S5 hgo hb5 l0 l1 r0 r1
        have r0 := S6.out.cell (i := 2) rfl (o := 0) rfl
        have r1 := S6.out.cell (i := 2) rfl (o := 1) rfl
        have f0 := S6.out.frozen (i := 2) rfl 0
        have f1 := S6.out.frozen (i := 2) rfl 1
        have l0 := S6.out.cell (i := 1) rfl (o := 0) rfl
        have l1 := S6.out.cell (i := 1) rfl (o := 1) rfl
        cases q
        · have SF := (S6.out.store (i := 2) rfl 0 (.int .i64 0)).store (i := 2) rfl 1 (.slice none 0 0)
          have j0 := SF.cell (i := 2) rfl (o := 0) rfl
          have j1 := SF.cell (i := 2) rfl (o := 1) rfl
          have hB := Lib.hid SF.below
          clear SF
          go_wp2_with fail
          exact bodyPost_ret (v := .tuple #[.agg #[.int .i64 0, .slice none 0 0], .bool false]) (by simp [results, Tryz.results40, go_sem, j0, j1]) rfl (cnfP_no hen.out hB.out)
        · have SF := (S6.out.store (i := 2) rfl 0 (.int .i64 vars)).store (i := 2) rfl 1 (.slice B xss.length cap)
          have j0 := SF.cell (i := 2) rfl (o := 0) rfl
          have j1 := SF.cell (i := 2) rfl (o := 1) rfl
          have hR := Lib.hid (Sp.front (qs := [_]) SF)
          clear SF S6
          go_wp2_with fail
          exact bodyPost_ret (v := .tuple #[.agg #[.int .i64 vars, .slice B xss.length cap], .bool true]) (by simp [results, Tryz.results40, go_sem, j0, j1]) rfl (cnfP_yes hen.out hR.out)
end Go.Proofs.YtahbepajeplcmaaGreatDoor

/- Contracts: numbers of variables that are drawn, mostly up to five. -/
namespace Go.Proofs.YtahbepajeplcmaaGreatDoor
open Go.RowKit

set_option maxRecDepth 100000 in
set_option maxHeartbeats 4000000 in
theorem cur_vars2 (A g : Nat) (ca : Option Addr) (cl cc : Nat) (w : World) (h : CurIs A g ca cl cc w) (hA : A ≤ 80000000) :
    Calls Tryz.prog 73 #[.pointer (some ⟨g, 0, none⟩)] w (CurPost (IntIn (-1) 13) (A + 4) g ca cl cc w) := by
  have hg := h.lt
  have S0 := Lib.hid ((CS.start h).alloc_box #[.int .i64 3, .int .i64 3, .int .i64 4, .int .i64 4, .int .i64 5, .int .i64 2, .int .i64 12, .int .i64 1, .int .i64 0, .int .i64 13, .int .i64 (-1)] 3)
  go_enter Tryz.func73, Tryz.ntmps73
  go_wp2_with fail
  refine (cur_pick_at (lo := 0) (hi := 23) S0.out.cur (by omega) (by omega) (by omega) (by omega) (by omega)).mono ?_
  rintro e w1 ⟨_, ⟨x, hx0, hx1, rfl⟩, rfl, hi1, hc1⟩
  have S1 := Lib.hid (S0.out.turn hi1 hc1)
  have hcell : ∀ j, j < 11 → ∃ x, (-1 : Int) ≤ x ∧ x ≤ 13 ∧ w1.cell? ⟨w.heap.size, 0 + j, none⟩ = some (.int .i64 x) := fun j hj => by
    rw [Nat.zero_add]
    match j, hj with
    | 0, _ => exact ⟨_, by decide, by decide, S1.out.cell (i := 0) rfl rfl⟩
    | 1, _ => exact ⟨_, by decide, by decide, S1.out.cell (i := 0) rfl rfl⟩
    | 2, _ => exact ⟨_, by decide, by decide, S1.out.cell (i := 0) rfl rfl⟩
    | 3, _ => exact ⟨_, by decide, by decide, S1.out.cell (i := 0) rfl rfl⟩
    | 4, _ => exact ⟨_, by decide, by decide, S1.out.cell (i := 0) rfl rfl⟩
    | 5, _ => exact ⟨_, by decide, by decide, S1.out.cell (i := 0) rfl rfl⟩
    | 6, _ => exact ⟨_, by decide, by decide, S1.out.cell (i := 0) rfl rfl⟩
    | 7, _ => exact ⟨_, by decide, by decide, S1.out.cell (i := 0) rfl rfl⟩
    | 8, _ => exact ⟨_, by decide, by decide, S1.out.cell (i := 0) rfl rfl⟩
    | 9, _ => exact ⟨_, by decide, by decide, S1.out.cell (i := 0) rfl rfl⟩
    | 10, _ => exact ⟨_, by decide, by decide, S1.out.cell (i := 0) rfl rfl⟩
  replace hcell := Lib.hid hcell
  clear S0 hc1
  obtain ⟨k, hk, hkx⟩ : ∃ k : Nat, k ≤ 3 ∧ x.tdiv 6 = (k : Int) := ⟨(x / 6).toNat, by omega, by rw [Int.tdiv_eq_ediv_of_nonneg hx0]; omega⟩
  have hq : ∀ m, 7 ≤ m → m ≤ 11 → Calls Tryz.prog 87 #[.pointer (some ⟨g, 0, none⟩), .slice (some ⟨w.heap.size, 0, none⟩) m 11] w1 (CurPost (IntIn (-1) 13) (A + 2 + 2) g ca cl cc w1) := fun m h1 h2 =>
    cur_among (-1) 13 w.heap.size 0 m 11 (A + 2) g ca cl cc w1 hi1 (by omega) (by omega) (by omega) (fun j hj => hcell.out j (by omega)) (by omega)
  replace hq := Lib.hid hq
  clear hi1
  have hk3 : k = 0 ∨ k = 1 ∨ k = 2 ∨ k = 3 := by omega
  rcases hk3 with rfl | rfl | rfl | rfl
  all_goals
    go_wp2_with fail
    refine (hq.out _ (by decide) (by decide)).mono ?_
    rintro e w2 ⟨_, ⟨z, hz0, hz1, rfl⟩, rfl, hi2, hc2⟩
    have S2 := S1.out.turn hi2 hc2
    have hC := S2.chg
    clear S1 S2 hc2 hq hcell
    go_wp2_with fail
    go_ret
    exact ⟨_, ⟨z, hz0, hz1, rfl⟩, rfl, hi2, hC⟩
end Go.Proofs.YtahbepajeplcmaaGreatDoor

/- Joined parts beside a cursor; a known Cnf, weakly, and the texts without models. -/
namespace Go.Proofs.YtahbepajeplcmaaGreatDoor
open Go.RowKit

section
variable {w0 w w' : World} {g cl cc A A' : Nat} {ca : Option Addr} {ps qs : List Asn}
theorem CS.comp (h : CS w0 g ca cl cc A w ps) (k : CS w g ca cl cc A' w' qs) : CS w0 g ca cl cc A' w' (qs ++ ps) := by
  have hg := h.glt
  have hsz := h.chg.size
  obtain ⟨h0, h1, h2, F, h3, h4⟩ := h
  obtain ⟨k0, k1, k2, G, k3, k4⟩ := k
  have hk := sep_keep h3 fun b hm => k2.block b (sep_lt h3 b hm) fun hb => by
    obtain rfl : b = g := by simpa using hb
    have := h4 b hm; omega
  refine ⟨h0, k1, h2.trans k2, G ++ F, sep_append k3 hk (fun b hb hb2 => ?_), fun b hb => ?_⟩
  · have := k4 b hb; have := sep_lt h3 b hb2; omega
  · rcases List.mem_append.1 hb with hb | hb
    · have := k4 b hb; omega
    · exact h4 b hb
theorem CS.front (h : CS w0 g ca cl cc A w (qs ++ ps)) : CS w0 g ca cl cc A w qs := by
  obtain ⟨h0, h1, h2, F, h3, h4⟩ := h
  obtain ⟨G, h5, h6⟩ := sep_front h3
  exact ⟨h0, h1, h2, G, h5, fun b hb => h4 b (h6 b hb)⟩
theorem row_cs {v : Value} {c : List Int} (h : CurIs A g ca cl cc w) (hi : CurIs A' g ca cl cc w') (hc : Chg [g] w w') (ho : w'.ownsRow w.heap.size 3 1 v c.length (c.map (.int .i64))) :
    CS w g ca cl cc A' w' [Own 3 1 v c.length (c.map (.int .i64))] :=
  ⟨⟨A, h⟩, hi, hc, _, ⟨v.ownBlock.toList, [], by rw [List.append_nil], by simp, ⟨rfl, owns_zero ho⟩, rfl⟩, fun b hb => owns_ge ho b (by simpa using hb)⟩
end
def TextLe (n : Nat) (s : ByteArray) : Prop := s.size ≤ n
theorem text_le {n : Nat} {s : ByteArray} (h : decide (s.size ≤ n) = true) : TextLe n s := show s.size ≤ n from of_decide_eq_true h
theorem strsR_new {R : ByteArray → Prop} {W : World} {cs : Array Value} {t : TypeId} {b n : Nat} (hb : b = W.heap.size) (h : ∀ j, j < n → ∃ s, cs[j]? = some (.string s) ∧ R s) : StrsR R (W.alloc (.cells cs t)) b 0 n := fun j hj => by
  obtain ⟨s, h1, h2⟩ := h j hj
  subst hb
  refine ⟨s, h2, ?_⟩
  rw [Nat.zero_add]
  exact (cell_of_row _ _ _ _ _ _ (heap_alloc_new W _)).trans h1

/-- A small Cnf of its own. -/
def CnfV (w : World) (e : Ending) (w' : World) : Prop := ∃ (vars : Int) (B : Option Addr) (cap : Nat) (cs : List Value) (xss : List (List Int)), e = .returned (.agg #[.int .i64 vars, .slice B xss.length cap]) ∧ 0 ≤ vars ∧ vars ≤ 12 ∧ xss.length ≤ 60 ∧ SmallC xss ∧
  Sp w w' [Rows Ty.int 43 (.slice B xss.length cap) cs xss]

set_option maxHeartbeats 2000000 in
theorem l2KnownW_any (s : ByteArray) (w : World) (hs : s.size ≤ 100000) : Calls Tryz.prog 106 #[.string s] w (CnfV w) := by
  have S0 := Lib.hid ((Sp.start w).alloc_box #[.int .i64 0, .slice none 0 0] 61)
  go_enter Tryz.func106, Tryz.ntmps106
  go_wp2_with fail
  refine (parseCnfW_any s _ hs).mono ?_
  rintro e w1 ⟨vars, B, cap, cs, xss, q, rfl, hv0, hv1, hl, HC, T1⟩
  replace HC := Lib.hid HC
  have S1 := (S0.out.seq T1).alloc_box #[.int .i64 vars, .slice B xss.length cap] 61
  obtain ⟨ob, hob⟩ : ∃ ob, w1.heap.size = ob := ⟨_, rfl⟩
  rw [hob] at S1
  have l0 := S1.cell (i := 0) rfl (o := 0) rfl
  have l1 := S1.cell (i := 0) rfl (o := 1) rfl
  have r0 := S1.cell (i := 2) rfl (o := 0) rfl
  have r1 := S1.cell (i := 2) rfl (o := 1) rfl
  have f0 := S1.frozen (i := 2) rfl 0
  have f1 := S1.frozen (i := 2) rfl 1
  have SF := (S1.store (i := 2) rfl 0 (.int .i64 vars)).store (i := 2) rfl 1 (.slice B xss.length cap)
  have j0 := SF.cell (i := 2) rfl (o := 0) rfl
  have j1 := SF.cell (i := 2) rfl (o := 1) rfl
  have hR := Lib.hid (Sp.front (qs := [_]) SF.tail)
  clear SF S1 S0 T1
  go_wp2_with fail
  exact bodyPost_ret (v := .agg #[.int .i64 vars, .slice B xss.length cap]) (by simp [results, Tryz.results106, go_sem, j0, j1]) rfl ⟨vars, B, cap, cs, xss, rfl, hv0, hv1, hl, HC.out, hR.out⟩

set_option maxHeartbeats 2000000 in
theorem l2Hard_any (w : World) : Calls Tryz.prog 186 #[] w fun e w' => e = .returned (.slice (some ⟨w.heap.size, 0, none⟩) 15 15) ∧ StrsR (TextLe 100) w' w.heap.size 0 15 ∧ Below w.heap.size w w' := by
  go_enter Tryz.func186, Tryz.ntmps186
  go_wp2_with fail
  go_ret
  refine ⟨rfl, strsR_new rfl fun j hj => ?_, bal (bb _) _⟩
  match j, hj with
  | 0, _ => exact ⟨_, rfl, text_le (by decide)⟩
  | 1, _ => exact ⟨_, rfl, text_le (by decide)⟩
  | 2, _ => exact ⟨_, rfl, text_le (by decide)⟩
  | 3, _ => exact ⟨_, rfl, text_le (by decide)⟩
  | 4, _ => exact ⟨_, rfl, text_le (by decide)⟩
  | 5, _ => exact ⟨_, rfl, text_le (by decide)⟩
  | 6, _ => exact ⟨_, rfl, text_le (by decide)⟩
  | 7, _ => exact ⟨_, rfl, text_le (by decide)⟩
  | 8, _ => exact ⟨_, rfl, text_le (by decide)⟩
  | 9, _ => exact ⟨_, rfl, text_le (by decide)⟩
  | 10, _ => exact ⟨_, rfl, text_le (by decide)⟩
  | 11, _ => exact ⟨_, rfl, text_le (by decide)⟩
  | 12, _ => exact ⟨_, rfl, text_le (by decide)⟩
  | 13, _ => exact ⟨_, rfl, text_le (by decide)⟩
  | 14, _ => exact ⟨_, rfl, text_le (by decide)⟩
end Go.Proofs.YtahbepajeplcmaaGreatDoor

/- Contract: a drawn Cnf without models. -/
namespace Go.Proofs.YtahbepajeplcmaaGreatDoor
open Go.RowKit

/-- Rows of small clauses. -/
def SmallR (n : Nat) (xss : List (List Int)) : Prop := ∀ c ∈ xss, (∀ x ∈ c, I64 x) ∧ c.length ≤ n
theorem SmallC.r {xss : List (List Int)} (h : SmallC xss) : SmallR 13 xss := fun c hc => ⟨(h c hc).1.i64 (by decide), (h c hc).2⟩
/-- A drawn Cnf. -/
def CnfPost (A g : Nat) (ca : Option Addr) (cl cc : Nat) (w : World) (e : Ending) (w' : World) : Prop := ∃ (vars : Int) (B : Option Addr) (cap : Nat) (cs : List Value) (xss : List (List Int)), e = .returned (.agg #[.int .i64 vars, .slice B xss.length cap]) ∧ -1 ≤ vars ∧ vars ≤ 13 ∧ xss.length ≤ 62 ∧ SmallR 13 xss ∧
  CS w g ca cl cc A w' [Rows Ty.int 43 (.slice B xss.length cap) cs xss]

set_option maxRecDepth 100000 in
set_option maxHeartbeats 8000000 in
theorem cur_hard (A g : Nat) (ca : Option Addr) (cl cc : Nat) (w : World) (h : CurIs A g ca cl cc w) (hA : A ≤ 40000000) :
    Calls Tryz.prog 156 #[.pointer (some ⟨g, 0, none⟩)] w (CnfPost (A + 400) g ca cl cc w) := by
  have hg := h.lt
  have S0 := Lib.hid ((CS.start h).alloc_box #[.int .i64 0, .slice none 0 0] 61)
  obtain ⟨i0, hi0, hy0, hy1, hy2⟩ := info_parts infoInt
  obtain ⟨i1, hi, hz0, hz1, hz2⟩ := info_parts infoRow
  clear h
  go_enter Tryz.func156, Tryz.ntmps156
  go_wp2_with fail
  refine (l2Hard_any _).mono ?_
  rintro e w1 ⟨rfl, hst, hb1⟩
  have hne : w.heap.size + 1 ≠ g := by omega
  simp only [World.size_alloc] at hst
  have S1 := S0.out.grow hb1
  have hof := Lib.hid (cur_of (TextLe 100) _ 0 15 15 A g ca cl cc _ S1.cur (by omega) (by decide) (by decide) hst hne)
  replace S1 := Lib.hid S1
  clear S0 hst hb1 hne
  go_wp2_with fail
  refine hof.out.mono ?_
  rintro e w2 ⟨_, ⟨s, hs, rfl⟩, rfl, hi2, hc2⟩
  have S2 := Lib.hid (S1.out.turn hi2 hc2)
  clear S1 hof hi2 hc2
  have hs1 : s.size ≤ 100 := hs
  have hs2 : s.size ≤ 100000 := by omega
  clear hs hs1
  go_wp2_with fail
  refine (l2KnownW_any s _ hs2).mono ?_
  rintro e w3 ⟨vars, B0, cap0, cs0, xss, rfl, hv0, hv1, hl60, HC0, T3⟩
  replace HC0 := Lib.hid HC0
  have S3 := (S2.out.seq T3).alloc_box #[.int .i64 vars, .slice B0 xss.length cap0] 61
  obtain ⟨fb, hfb⟩ : ∃ fb, w3.heap.size = fb := ⟨_, rfl⟩
  rw [hfb] at S3
  have S4 := S3.own_made 3 1
  simp only [World.size_alloc] at S4
  rw [hfb] at S4
  replace S4 := Lib.hid S4
  clear S2 S3 T3 hs2
  go_wp2_with fail
  go_loopw [4, 5] (fun vt vv wr => ∃ (tl : List Int) (TB : Option Addr) (tc : Nat) (z : Int), 1 ≤ z ∧ z ≤ 13 ∧ Hid ((tl.length : Int) + 1 = z) ∧ vv = .int .i64 z ∧ vt = .slice TB tl.length tc ∧ Hid (Within 13 tl) ∧ Hid (CS w g ca cl cc (A + 4 + 2 * tl.length) wr [Own 3 1 (.slice TB tl.length tc) tl.length (tl.map (.int .i64)), Box fb 61 #[.int .i64 vars, .slice B0 xss.length cap0], Rows Ty.int 43 (.slice B0 xss.length cap0) cs0 xss, Box w.heap.size 61 #[.int .i64 0, .slice none 0 0]])) (fun _ vv _ => 20 - (intOf vv).toNat)
  case atStart => exact ⟨[], _, _, 1, by decide, by decide, rfl, rfl, rfl, (fun x hx => by simp at hx), S4.out.mono (show _ ≤ A + 4 + 2 * ([] : List Int).length from by simp)⟩
  case round =>
    obtain ⟨tl, TB, tc, z, hz0', hz13, hlz, rfl, rfl, HW, HS⟩ := hrel
    have htl : tl.length ≤ 12 := by have := hlz.out; omega
    clear S4
    have d0 := HS.out.cell (i := 1) rfl (o := 0) rfl
    by_cases hlt : z ≤ vars
    · have hcur := Lib.hid HS.out.cur
      go_wp2_with fail
      refine (cur_one 4 _ g ca cl cc _ hcur.out (by omega) (by omega)).mono ?_
      rintro e w4 ⟨_, ⟨q, rfl⟩, rfl, hi4, hc4⟩
      have S2 := Lib.hid (HS.out.turn hi4 hc4)
      have hw1 : IntKind.i64.wrap (-z) = -z := IntWalk.i64_in _ (by omega)
      have hw2 : IntKind.i64.wrap (z + 1) = z + 1 := IntWalk.i64_in _ (by omega)
      clear HS hcur hi4 hc4 d0
      cases q
      · as_aux_lemma =>
          have S3 := S2.out.alloc_box #[.int .i64 (z)] 3
          have kB := S3.cell (i := 0) rfl (o := 0) rfl
          have d0 := S3.cell (i := 2) rfl (o := 0) rfl
          replace S3 := Lib.hid S3
          clear S2
          go_wp2_with (at_builtin; refine wpList_append_src rfl _ _ rfl Tryz.underlying43 hi0 hy0 hy1 hy2 rfl (by decide) _ _ _ rfl (S3.out.own (i := 1) rfl) _ 1 1 [.int .i64 (z)] rfl (Src.one kB) (by simp [Value.oneCell']) ?c3 ?c4 ?_)
          case c3 => unfold maxLen; omega
          case c4 => omega
          intro vY wY hownY hgY hatY
          have S4 := (S3.out.own_push (i := 1) rfl (bb _) hownY hgY (by simpa using hatY)).tail
          obtain ⟨aY, cY, rfl⟩ := own_slice hownY
          have hlen : tl.length + 1 = (tl ++ [z]).length := by simp
          have S5 : Hid (CS w g ca cl cc (A + 4 + 2 * (tl.length + 1)) wY [Own 3 1 (.slice aY (tl ++ [z]).length cY) (tl ++ [z]).length ((tl ++ [z]).map (.int .i64)), Box fb 61 #[.int .i64 vars, .slice B0 xss.length cap0], Rows Ty.int 43 (.slice B0 xss.length cap0) cs0 xss, Box w.heap.size 61 #[.int .i64 0, .slice none 0 0]]) := by
            unfold Hid; rw [← hlen, List.map_append]; exact S4.mono (by omega)
          have hW2 : Hid (Within 13 (tl ++ [z])) := HW.out.snoc (by omega) (by omega)
          clear S3 S4 kB hownY hgY hatY HW
          rw [hlen]
          rw [hlen] at S5
          have hlz2 : Hid (((tl ++ [z]).length : Int) + 1 = z + 1) := by unfold Hid; have := hlz.out; rw [← hlen]; omega
          clear hlz htl
          replace hlen := Lib.hid hlen
          generalize tl ++ [z] = tl2 at *
          go_wp2_with fail
          go_roundw
          case rel => exact ⟨tl2, aY, cY, z + 1, by omega, by omega, hlz2, rfl, rfl, hW2, S5⟩
          case measure => simp [intOf]; omega
      · as_aux_lemma =>
          have S3 := S2.out.alloc_box #[.int .i64 (-z)] 3
          have kB := S3.cell (i := 0) rfl (o := 0) rfl
          have d0 := S3.cell (i := 2) rfl (o := 0) rfl
          replace S3 := Lib.hid S3
          clear S2
          go_wp2_with (at_builtin; refine wpList_append_src rfl _ _ rfl Tryz.underlying43 hi0 hy0 hy1 hy2 rfl (by decide) _ _ _ rfl (S3.out.own (i := 1) rfl) _ 1 1 [.int .i64 (-z)] rfl (Src.one kB) (by simp [Value.oneCell']) ?c3 ?c4 ?_)
          case c3 => unfold maxLen; omega
          case c4 => omega
          intro vY wY hownY hgY hatY
          have S4 := (S3.out.own_push (i := 1) rfl (bb _) hownY hgY (by simpa using hatY)).tail
          obtain ⟨aY, cY, rfl⟩ := own_slice hownY
          have hlen : tl.length + 1 = (tl ++ [-z]).length := by simp
          have S5 : Hid (CS w g ca cl cc (A + 4 + 2 * (tl.length + 1)) wY [Own 3 1 (.slice aY (tl ++ [-z]).length cY) (tl ++ [-z]).length ((tl ++ [-z]).map (.int .i64)), Box fb 61 #[.int .i64 vars, .slice B0 xss.length cap0], Rows Ty.int 43 (.slice B0 xss.length cap0) cs0 xss, Box w.heap.size 61 #[.int .i64 0, .slice none 0 0]]) := by
            unfold Hid; rw [← hlen, List.map_append]; exact S4.mono (by omega)
          have hW2 : Hid (Within 13 (tl ++ [-z])) := HW.out.snoc (by omega) (by omega)
          clear S3 S4 kB hownY hgY hatY HW
          rw [hlen]
          rw [hlen] at S5
          have hlz2 : Hid (((tl ++ [-z]).length : Int) + 1 = z + 1) := by unfold Hid; have := hlz.out; rw [← hlen]; omega
          clear hlz htl
          replace hlen := Lib.hid hlen
          generalize tl ++ [-z] = tl2 at *
          go_wp2_with fail
          go_roundw
          case rel => exact ⟨tl2, aY, cY, z + 1, by omega, by omega, hlz2, rfl, rfl, hW2, S5⟩
          case measure => simp [intOf]; omega
    · have hto := HW.out
      have hl1000 : tl.length ≤ 1000 := by omega
      obtain ⟨F, hr, -, -⟩ := HS.out.rows_done (i := 2) rfl
      obtain ⟨G, hy, -, -⟩ := own_row (HS.out.own (i := 0) rfl) (HW.out.i64 (by decide))
      have hrn := Lib.hid (renameW_any vars _ xss tl TB tc F G _ (Ty.row_down hr) (Ty.row_down hy) hto hl1000)
      have d1 := HS.out.cell (i := 1) rfl (o := 1) rfl
      clear hr hy hto
      go_wp2_with fail
      refine hrn.out.mono ?_
      rintro e w4 ⟨va, B, cap, cs, ys, q, rfl, hva0, hva1, hyl, HC, T4⟩
      replace HC := Lib.hid HC.r
      have S5 := HS.out.seq T4
      have r0 := S5.cell (i := 2) rfl (o := 0) rfl
      have r1 := S5.cell (i := 2) rfl (o := 1) rfl
      have f0 := S5.frozen (i := 2) rfl 0
      have f1 := S5.frozen (i := 2) rfl 1
      have S6 := (S5.store (i := 2) rfl 0 (.int .i64 va)).store (i := 2) rfl 1 (.slice B ys.length cap)
      have S7 := S6.swap.tail
      have hcur := Lib.hid S7.cur
      replace S7 := Lib.hid S7
      clear HS S5 S6 T4 d0 d1 hrn HW hlz hl1000 HC0
      go_wp2_with fail
      clear r0 r1 f0 f1
      refine (cur_pick_at (lo := 0) (hi := 2) hcur.out (by omega) (by omega) (by omega) (by omega) (by omega)).mono ?_
      rintro e w5 ⟨_, ⟨x, hx0, hx1, rfl⟩, rfl, hi5, hc5⟩
      obtain ⟨m0, rfl⟩ := Int.eq_ofNat_of_zero_le hx0
      have hm2 : m0 ≤ 2 := by omega
      have S8 := Lib.hid ((S7.out.turn hi5 hc5).mono (show _ ≤ A + 100 + 100 * (2 - m0) by omega))
      clear S7 hcur hi5 hc5 hx0 hx1
      go_wp2_with fail
      go_loopw [6] (fun vv wr => ∃ (m : Nat) (B : Option Addr) (cap : Nat) (cs : List Value) (ys : List (List Int)), m ≤ 2 ∧ vv = .int .i64 m ∧ ys.length + m ≤ 62 ∧ Hid (SmallR 13 ys) ∧ Hid (CS w g ca cl cc (A + 100 + 100 * (2 - m)) wr [Rows Ty.int 43 (.slice B ys.length cap) cs ys, Box fb 61 #[.int .i64 va, .slice B ys.length cap], Rows Ty.int 43 (.slice B0 xss.length cap0) cs0 xss, Box w.heap.size 61 #[.int .i64 0, .slice none 0 0]])) (fun vv _ => (intOf vv).toNat)
      case atStart => exact ⟨m0, B, cap, cs, ys, hm2, rfl, by omega, HC, S8⟩
      case round =>
        clear S8 HC
        obtain ⟨m, B, cap, cs, ys, hm2, rfl, hyl, HC, HS⟩ := hrel
        have d0 := HS.out.cell (i := 1) rfl (o := 0) rfl
        go_upto_region 11 with fail
        go_cut [43] (fun s wx => ∃ b : Bool, s = .bool b ∧ Hid (b = true → 0 < m) ∧ wx = wr)
        case first =>
          by_cases hm : 0 < m
          · have e0 : decide ((0 : Int) < (m : Int)) = true := decide_eq_true (by omega)
            obtain ⟨q, hq⟩ : ∃ q, decide ((0 : Int) < va) = q := ⟨_, rfl⟩
            go_wp2_with fail
            all_goals
              go_meet
              exact ⟨_, rfl, fun _ => hm, rfl⟩
          · have e0 : decide ((0 : Int) < (m : Int)) = false := decide_eq_false (by omega)
            go_wp2_with fail
            go_meet
            exact ⟨false, rfl, (fun h => by cases h), rfl⟩
        case rest =>
        obtain ⟨b, rfl, hb, hww⟩ := hcut
        subst hww
        cases b
        · have l1 := HS.out.cell (i := 1) rfl (o := 1) rfl
          have r0 := HS.out.cell (i := 3) rfl (o := 0) rfl
          have r1 := HS.out.cell (i := 3) rfl (o := 1) rfl
          have f0 := HS.out.frozen (i := 3) rfl 0
          have f1 := HS.out.frozen (i := 3) rfl 1
          have SF := (HS.out.store (i := 3) rfl 0 (.int .i64 va)).store (i := 3) rfl 1 (.slice B ys.length cap)
          have j0 := SF.cell (i := 3) rfl (o := 0) rfl
          have j1 := SF.cell (i := 3) rfl (o := 1) rfl
          have hR := Lib.hid ((CS.front (qs := [_]) SF).mono (show _ ≤ A + 400 by omega))
          clear SF HS
          go_wp2_with fail
          exact bodyPost_ret (v := .agg #[.int .i64 va, .slice B ys.length cap]) (by simp [results, Tryz.results156, go_sem, j0, j1]) rfl ⟨va, B, cap, cs, ys, rfl, by omega, by omega, by omega, HC.out, hR.out⟩
        · have hm := hb.out rfl
          have hmw : IntKind.i64.wrap ((m : Int) - 1) = ((m - 1 : Nat) : Int) := by rw [IntWalk.i64_in _ (by omega)]; omega
          clear hb d0
          have l0 := HS.out.cell (i := 1) rfl (o := 0) rfl
          have l1 := HS.out.cell (i := 1) rfl (o := 1) rfl
          go_wp2_with fail
          refine wp_region_tail_lit (S := (fun w' => w'.cell? ⟨fb, 0, none⟩ = some (.int .i64 va) ∧ w'.cell? ⟨fb, 1, none⟩ = some (.slice B ys.length cap))) 7 [false, false, false, false, false, false, false, false, false, false] (by kernel_rfl) (by kernel_rfl) (by kernel_rfl) ?_ ?_
          · exact ⟨l0, l1⟩
          intro hSc
          (refine walkT_take (i := 0) (v := ?_) rfl (by kernel_rfl) (by decide) (by kernel_rfl) (by kernel_rfl) (fun _ _ _ h => h) (Or.inl ⟨by rfl, ?_⟩) (by assumption) ?_; rotate_left; (focus (intro w hSw; (try dsimp only at hSw); go_simp; (try with_reducible rfl); done)); (try simp only [put_rules]))
          (refine walkT_take (i := 1) (v := ?_) rfl (by kernel_rfl) (by decide) (by kernel_rfl) (by kernel_rfl) (fun _ _ _ h => h) (Or.inl ⟨by rfl, ?_⟩) (by assumption) ?_; rotate_left; (focus (intro w hSw; (try dsimp only at hSw); go_simp; (try with_reducible rfl); done)); (try simp only [put_rules]))
          (refine walkT_take (i := 2) (v := ?_) rfl (by kernel_rfl) (by decide) (by kernel_rfl) (by kernel_rfl) (fun _ _ _ h => h) (Or.inl ⟨by rfl, ?_⟩) (by assumption) ?_; rotate_left; (focus (intro w hSw; (try dsimp only at hSw); go_simp; (try with_reducible rfl); done)); (try simp only [put_rules]))
          (refine walkT_take (i := 3) (v := ?_) rfl (by kernel_rfl) (by decide) (by kernel_rfl) (by kernel_rfl) (fun _ _ _ h => h) (Or.inl ⟨by rfl, ?_⟩) (by assumption) ?_; rotate_left; (focus (intro w hSw; (try dsimp only at hSw); go_simp; (try with_reducible rfl); done)); (try simp only [put_rules]))
          (refine walkT_take (i := 4) (v := ?_) rfl (by kernel_rfl) (by decide) (by kernel_rfl) (by kernel_rfl) (fun _ _ _ h => h) (Or.inl ⟨by rfl, ?_⟩) (by assumption) ?_; rotate_left; (focus (intro w hSw; (try dsimp only at hSw); go_simp; (try with_reducible rfl); done)); (try simp only [put_rules]))
          (refine walkT_ready (rs := [5]) (by kernel_rfl) (by simp) (by decide) ?_; refine AllT.cons rfl (fun K hK => ?_) AllT.nil)
          go_simp
          go_at_call 91
          have S3 := HS.out.drew
          have hcall := Lib.hid (cur_clause va (by omega) _ g ca cl cc _ S3.cur (by omega))
          refine hcall.out.mono ?_
          rintro e w3 ⟨v, c, rfl, ho, hl, hW, hi3, hc3⟩
          have S4 := S3.comp (row_cs S3.cur hi3 hc3 ho)
          obtain ⟨B2, cap2, rfl⟩ := own_slice ho
          have S5 := Lib.hid (CS.own_to_row (ps := _) S4 (hW.i64 (by decide)))
          clear hcall S3 S4 HS l0 l1 hi3 hc3 ho
          go_wp2_with fail
          refine hK.out _ _ ⟨S5.out.cell (i := 2) rfl (o := 0) rfl, S5.out.cell (i := 2) rfl (o := 1) rfl⟩ (fun hS2 => ?_)
          clear hK hSc
          (try simp only [put_rules])
          (refine walkT_ready (rs := [6]) (by kernel_rfl) (by simp) (by decide) ?_; refine AllT.cons rfl (fun K hK => ?_) AllT.nil)
          go_simp
          have hrows := Lib.hid ((S5.out.rows (i := 1) rfl).alloc (.cells #[.slice B2 c.length cap2] 43))
          have kB : (w3.alloc (.cells #[.slice B2 c.length cap2] 43)).cell? ⟨w3.heap.size, 0, none⟩ = some (.slice B2 c.length cap2) := cell_of_row _ _ _ _ _ _ (heap_alloc_new w3 _)
          have S6 := Lib.hid (S5.out.alloc (.cells #[.slice B2 c.length cap2] 43))
          refine hK.out _ _ ⟨S6.out.cell (i := 2) rfl (o := 0) rfl, S6.out.cell (i := 2) rfl (o := 1) rfl⟩ (fun hS3 => ?_)
          clear hK hS2
          (try simp only [put_rules])
          (refine walkT_done (by kernel_rfl) ?_)
          simp only [List.drop_succ_cons, List.drop_zero]
          (refine wpList_append_src rfl _ _ rfl Tryz.underlying59 hi hz0 hz1 hz2 rfl (by decide) _ ys.length _ rfl hrows.out _ 1 1 [.slice B2 c.length cap2] rfl (Src.one kB) (by simp [Value.oneCell']) (by unfold maxLen; omega) (by omega) ?_; intro vY wY hownY hgY hatY)
          have S7 := S5.out.rows_push (bal (bb _) _) hownY hgY hatY
          obtain ⟨aY, cY, rfl⟩ := own_slice hownY
          have b1 := S7.cell (i := 1) rfl (o := 1) rfl
          have q1 := S7.frozen (i := 1) rfl 1
          have hlen : ys.length + 1 = (ys ++ [c]).length := by simp
          have S8 : Hid (CS w g ca cl cc (A + 100 + 100 * (2 - (m - 1))) (wY.setCell ⟨fb, 1, none⟩ (.slice aY (ys.length + 1) cY)) [Rows Ty.int 43 (.slice aY (ys ++ [c]).length cY) (cs ++ [.slice B2 c.length cap2]) (ys ++ [c]), Box fb 61 #[.int .i64 va, .slice aY (ys ++ [c]).length cY], Rows Ty.int 43 (.slice B0 xss.length cap0) cs0 xss, Box w.heap.size 61 #[.int .i64 0, .slice none 0 0]]) := by
            unfold Hid; rw [← hlen]
            have := (S7.store (i := 1) rfl 1 (.slice aY (ys.length + 1) cY)).mono (show _ ≤ A + 100 + 100 * (2 - (m - 1)) by omega)
            rw [hlen] at this ⊢
            exact this
          have HC2 : Hid (SmallR 13 (ys ++ [c])) := fun y hy => by
            rcases List.mem_append.1 hy with hy | hy
            · exact HC.out y hy
            · obtain rfl : y = c := by simpa using hy
              exact ⟨hW.i64 (by decide), by omega⟩
          clear S5 S6 S7 hrows hownY hgY hatY kB hW HC
          replace hlen := Lib.hid hlen
          have hyl2 : (ys ++ [c]).length + (m - 1) ≤ 62 := by rw [← hlen.out]; omega
          go_wp2_with fail
          go_roundw
          case rel => exact ⟨m - 1, aY, cY, cs ++ [.slice B2 c.length cap2], ys ++ [c], by omega, rfl, hyl2, HC2, S8⟩
          case measure => simp [intOf]; omega
end Go.Proofs.YtahbepajeplcmaaGreatDoor
