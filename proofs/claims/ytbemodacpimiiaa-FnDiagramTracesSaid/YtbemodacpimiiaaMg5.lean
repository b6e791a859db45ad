/- Lemmas and contracts for a law, put together out of several texts: ClQ CurK TcA DtA DtC BrA DtD DgK. -/
import Derived.Test.YtbemodacpimiiaaMg4
import Derived.Test.YtbemodacpimiiaaMg3
import Derived.Deep.DeepCutAuto
import Derived.Deep.CutBlock
import Derived.Test.YtbemodacpimiiaaMg1
import Derived.Test.YtbemodacpimiiaaMg2
/- Contracts: clauses in the reference: a literal put in, a variable left out, resolvents. -/
namespace Go.Proofs.Ytbemodacpimiiaa
open Go.RowKit

/-- A clause without a variable. -/
def withoutB (c : List Int) (v : Int) : List Int := c.filter (fun l => !(absV l == v))
theorem without_step {c : List Int} {v : Int} {k : Nat} {q : Bool} (hk : k < c.length) (h : (absV c[k] == v) = q) : withoutB (c.take (k + 1)) v = withoutB (c.take k) v ++ (if q then [] else [c[k]]) := by
  unfold withoutB
  rw [List.take_succ_eq_append_getElem hk, List.filter_append]
  cases q <;> simp [h]
theorem without_len (c : List Int) (v : Int) (k : Nat) : (withoutB (c.take k) v).length ≤ k := Nat.le_trans (List.length_filter_le _ _) (by rw [List.length_take]; omega)

set_option maxRecDepth 100000 in
set_option maxHeartbeats 2000000 in
theorem l2Without_any (u : Value) (c : List Int) (v : Int) (F : List Nat) (w : World) (hx : Ty.int.row false w u c F) (hc : c.length ≤ 10000000000) :
    Calls Try.prog 181 #[u, .int .i64 v] w (OwnsPost w (withoutB c v)) := by
  obtain ⟨i0, hi, hz0, hz1, hz2⟩ := info_parts infoInt
  obtain ⟨ad, cap, rfl, hx1, hx2, hxI, hx3⟩ := row_int hx
  have S0 := (Sp.start w).own_made 3 1
  replace S0 := Lib.hid S0
  go_enter Try.func181, Try.ntmps181
  go_wp2_with fail
  go_loopw [5, 6] (fun s i wr => ∃ k : Nat, k ≤ c.length ∧ i = .int .i64 k ∧ Sp w wr [Own 3 1 s (withoutB (c.take k) v).length ((withoutB (c.take k) v).map (.int .i64))]) (fun _ i _ => c.length - (intOf i).toNat)
  case atStart => exact ⟨0, Nat.zero_le _, rfl, S0.out⟩
  case round =>
    obtain ⟨k, hk, rfl, HS⟩ := hrel
    have hB := HS.below
    have hown := HS.own (i := 0) rfl
    have hlen := without_len c v k
    obtain ⟨sa, sc, rfl⟩ := owns_form hown
    replace HS := Lib.hid HS
    replace hown := Lib.hid hown
    by_cases hlt : k < c.length
    · rcases hx3 with ⟨rfl, rfl⟩ | ⟨hxn, b, off, rfl, rfl, hxc⟩
      · exact absurd hlt (by simp)
      have k0 := ((hxc k hlt).keep (hB.block b (hxc k hlt).lt)).1
      cases hq : absV c[k] == v
      · have HT : Hid (withoutB (c.take (k + 1)) v = withoutB (c.take k) v ++ [c[k]]) := without_step hlt hq
        have hq' : (absV c[k] != v) = true := by simp [bne, hq]
        have ho2 := Lib.hid ((HS.out.alloc (.cells #[.int .i64 c[k]] 3)).own (i := 0) rfl)
        go_wp2_with (first
          | (go_at_call 151; (with_reducible refine (l2Var_any _ _).mono ?_); rintro e w1 ⟨rfl, rfl⟩)
          | (at_builtin; refine wpList_append_src rfl _ _ rfl Try.underlying35 hi hz0 hz1 hz2 rfl (by decide) _ _ _ rfl ho2.out (some ⟨wr.heap.size, 0, none⟩) 1 1 [.int .i64 c[k]] rfl (Src.one (by simp [go_sem])) (by simp [Value.oneCell']) (by unfold maxLen; omega) (by omega) ?_))
        intro v' w1 hown1 hg1 hat1
        have HN := (HS.out.alloc _).own_push (i := 0) rfl (bb _) hown1 hg1 (by simpa using hat1)
        have HN2 : Sp w w1 [Own 3 1 v' (withoutB (c.take (k + 1)) v).length ((withoutB (c.take (k + 1)) v).map (.int .i64))] := by rw [HT.out, List.length_append, List.map_append]; exact HN
        replace HN2 := Lib.hid HN2
        clear HN hown1 hg1 hat1 HS hown
        go_wp2_with fail
        go_roundw
        case rel => exact ⟨k + 1, by omega, by go_num, HN2.out⟩
        case measure => simp [intOf]; omega
      · have HT : Hid (withoutB (c.take (k + 1)) v = withoutB (c.take k) v) := (without_step hlt hq).trans (List.append_nil _)
        have hq' : (absV c[k] != v) = false := by simp [bne, hq]
        go_wp2_with (go_at_call 151; (with_reducible refine (l2Var_any _ _).mono ?_); rintro e w1 ⟨rfl, rfl⟩)
        go_roundw
        case rel => exact ⟨k + 1, by omega, by go_num, by rw [HT.out]; exact HS.out⟩
        case measure => simp [intOf]; omega
    · obtain rfl : k = c.length := by omega
      have h := HS.out
      rw [List.take_length] at h
      have ho := h.owns_end (i := 0) rfl
      replace ho := Lib.hid ho
      clear hown HS h
      go_wp2_with fail
      go_ret
      rw [List.take_length] at *
      exact ⟨_, rfl, ho.out, hB⟩

theorem row_int_take {wr : Bool} {w : World} {a : Option Addr} {n cap : Nat} {xs : List Int} {F : List Nat} {k : Nat} (h : Ty.int.row wr w (.slice a n cap) xs F) (hk : k ≤ xs.length) :
    ∃ F', Ty.int.row wr w (.slice a k cap) (xs.take k) F' ∧ ∀ b ∈ F', b ∈ F := by
  obtain ⟨a', cap', e, h1, h2, hI, h3⟩ := row_int h
  simp only [Value.slice.injEq] at e
  obtain ⟨rfl, rfl, rfl⟩ := e
  have hl : (xs.take k).length = k := by rw [List.length_take]; omega
  by_cases h0 : k = 0
  · subst h0
    exact ⟨[], Ty.row_nil _ _ _ _ _ h2, by simp⟩
  · rcases h3 with ⟨rfl, rfl⟩ | ⟨hne, b, off, rfl, rfl, hc⟩
    · simp at hk; omega
    · refine ⟨[b], ?_, fun _ h => h⟩
      have := row_int_mk (wr := wr) (w := w) (b := b) (off := off) (cap := cap) (xs := xs.take k) (fun x hx => hI x (List.mem_of_mem_take hx)) (by omega) h2 (by intro e; rw [e] at hl; simp at hl; omega) (fun j hj => by
        rw [List.getElem_take]
        exact hc j (by omega))
      rw [hl] at this
      exact this
/-- The rest of a row, as a source. -/
theorem row_int_from {wr : Bool} {w : World} {a : Option Addr} {n cap : Nat} {xs : List Int} {F : List Nat} {k : Nat} (h : Ty.int.row wr w (.slice a n cap) xs F) (hk : k ≤ xs.length) :
    Src w (cutA a cap k 1) (xs.length - k) 1 ((xs.drop k).map (.int .i64)) := by
  obtain ⟨A, c, e, hs⟩ := row_src_int h
  obtain ⟨a', cap', e', h1, h2, hI, h3⟩ := row_int h
  simp only [Value.slice.injEq] at e e'
  obtain ⟨rfl, rfl, rfl⟩ := e
  obtain ⟨rfl, _, rfl⟩ := e'
  rcases h3 with ⟨rfl, rfl⟩ | ⟨hne, b, off, rfl, rfl, hc⟩
  · exact .inl ⟨by simp, by simp⟩
  · have := hs.from hk h1
    rw [Nat.mul_one] at this
    rw [List.map_drop]
    exact this

/-- Where a literal goes. -/
def litAt (c : List Int) (l : Int) : Nat := (c.takeWhile (fun x => decide (absV x < absV l))).length
/-- A clause with a literal put in. -/
def putB (c : List Int) (l : Int) : List Int := c.take (litAt c l) ++ l :: c.drop (litAt c l)
theorem litAt_end {c : List Int} {l : Int} {k : Nat} (h : (c.take k).all (fun x => decide (absV x < absV l)) = true) (hk : k ≤ c.length) (he : k = c.length ∨ ∃ h : k < c.length, ¬ absV c[k] < absV l) : litAt c l = k := by
  unfold litAt
  have h1 : c.takeWhile (fun x => decide (absV x < absV l)) = c.take k := by
    conv => lhs; rw [← List.take_append_drop k c]
    rw [List.takeWhile_append_of_pos (by simpa [List.all_eq_true] using h)]
    rcases he with rfl | ⟨hlt, hn⟩
    · simp
    · rw [List.drop_eq_getElem_cons hlt, List.takeWhile_cons, if_neg (by simpa using hn), List.append_nil]
  rw [h1, List.length_take]; omega
theorem put_len (c : List Int) (l : Int) : (putB c l).length = c.length + 1 := by
  unfold putB
  have : litAt c l ≤ c.length := by unfold litAt; exact (List.takeWhile_sublist _).length_le
  simp; omega

set_option maxRecDepth 100000 in
set_option maxHeartbeats 4000000 in
theorem l2Put_any (u : Value) (c : List Int) (l : Int) (F : List Nat) (w : World) (hx : Ty.int.row false w u c F) (hc : c.length ≤ 1000000000) :
    Calls Try.prog 89 #[u, .int .i64 l] w (OwnsPost w (putB c l)) := by
  obtain ⟨i0, hi, hz0, hz1, hz2⟩ := info_parts infoInt
  obtain ⟨ad, cap, rfl, hx1, hx2, hxI, hx3⟩ := row_int hx
  go_enter Try.func89, Try.ntmps89
  go_wp2_with fail
  go_loop [5] (fun i => ∃ k : Nat, k ≤ c.length ∧ i = .int .i64 k ∧ Hid ((c.take k).all (fun x => decide (absV x < absV l)) = true)) (fun i => c.length - (intOf i).toNat)
  case atStart => exact ⟨0, Nat.zero_le _, rfl, by simp [Hid]⟩
  case round =>
    obtain ⟨k, hk, rfl, HR⟩ := hrel
    by_cases hgo : ∃ h : k < c.length, absV c[k] < absV l
    · obtain ⟨hlt, hgo⟩ := hgo
      rcases hx3 with ⟨rfl, rfl⟩ | ⟨hxn, b, off, rfl, rfl, hxc⟩
      · exact absurd hlt (by simp)
      have k0 := (hxc k hlt).1
      have HN : Hid ((c.take (k + 1)).all (fun x => decide (absV x < absV l)) = true) := by
        unfold Hid
        rw [List.take_succ_eq_append_getElem hlt, List.all_append, HR.out]
        simp [hgo]
      have hd : decide (absV c[k] < absV l) = true := by simpa using hgo
      clear HR
      go_wp2_with (go_at_call 151; (with_reducible refine (l2Var_any _ _).mono ?_); rintro e w1 ⟨rfl, rfl⟩)
      go_round
      case rel => exact ⟨k + 1, by omega, by go_num, HN⟩
      case measure => simp [intOf]; omega
    · have hat : Hid (litAt c l = k) := by
        refine litAt_end HR.out hk ?_
        by_cases h : k < c.length
        · exact .inr ⟨h, fun h2 => hgo ⟨h, h2⟩⟩
        · exact .inl (by omega)
      have hto := row_int_take (k := k) (Ty.row_grow hx (bdr (bb w))) hk
      obtain ⟨F', hto, _⟩ := hto
      have hfr := Lib.hid (row_int_from (k := k) hx hk)
      have hP : Hid (putB c l = c.take k ++ l :: c.drop k) := by unfold Hid putB; rw [hat.out]
      have hlk : (c.take k).length = k := by rw [List.length_take]; omega
      replace hto := Lib.hid hto
      have h9 : c.length - k ≤ c.length := by omega
      by_cases hlt : k < c.length
      · rcases hx3 with ⟨rfl, rfl⟩ | ⟨hxn, b, off, rfl, rfl, hxc⟩
        · exact absurd hlt (by simp)
        have k0 := (hxc k hlt).1
        have hd : decide (absV c[k] < absV l) = false := by simpa using fun h2 => hgo ⟨hlt, h2⟩
        clear hgo HR hat
        go_wp2_with (go_at_call 151; (with_reducible refine (l2Var_any _ _).mono ?_); rintro e w1 ⟨rfl, rfl⟩)
        refine wp_region_tail (S := (fun _ => True)) 10 (by kernel_rfl) (by kernel_rfl) ?_ ?_
        · trivial
        intro hS
        (refine walkT_take (i := 0) (v := ?_) rfl (by kernel_rfl) (by decide) (by kernel_rfl) (by kernel_rfl) (fun _ _ _ h => h) (Or.inl ⟨by rfl, ?_⟩) (by assumption) ?_; rotate_left; (focus (intro w hSw; (try dsimp only at hSw); go_simp; (try with_reducible rfl); done)); (try simp only [put_rules]))
        (refine walkT_take (i := 1) (v := ?_) rfl (by kernel_rfl) (by decide) (by kernel_rfl) (by kernel_rfl) (fun _ _ _ h => h) (Or.inl ⟨by rfl, ?_⟩) (by assumption) ?_; rotate_left; (focus (intro w hSw; (try dsimp only at hSw); go_simp; (try with_reducible rfl); done)); (try simp only [put_rules]))
        (refine walkT_take (i := 2) (v := .slice _ k cap) rfl (by kernel_rfl) (by decide) (by kernel_rfl) (by kernel_rfl) (fun _ _ _ h => h) (Or.inl ⟨by rfl, fun _ _ => exec_slice_to rfl rfl rfl Try.underlying35 hi (by omega)⟩) (by assumption) ?_; (try simp only [put_rules]))
        (refine walkT_take (i := 4) (v := ?_) rfl (by kernel_rfl) (by decide) (by kernel_rfl) (by kernel_rfl) (fun _ _ _ h => h) (Or.inl ⟨by rfl, ?_⟩) (by assumption) ?_; rotate_left; (focus (intro w hSw; (try dsimp only at hSw); go_simp; (try with_reducible rfl); done)); (try simp only [put_rules]))
        (refine walkT_take (i := 7) (v := ?_) rfl (by kernel_rfl) (by decide) (by kernel_rfl) (by kernel_rfl) (fun _ _ _ h => h) (Or.inl ⟨by rfl, ?_⟩) (by assumption) ?_; rotate_left; (focus (intro w hSw; (try dsimp only at hSw); go_simp; (try with_reducible rfl); done)); (try simp only [put_rules]))
        (refine walkT_take (i := 8) (v := ?_) rfl (by kernel_rfl) (by decide) (by kernel_rfl) (by kernel_rfl) (fun _ _ _ h => h) (Or.inl ⟨by rfl, ?_⟩) (by assumption) ?_; rotate_left; (focus (intro w hSw; (try dsimp only at hSw); go_simp; (try with_reducible rfl); done)); (try simp only [put_rules]))
        (refine walkT_take (i := 9) (v := .slice (cutA _ cap k 1) (c.length - k) (cap - k)) rfl (by kernel_rfl) (by decide) (by kernel_rfl) (by kernel_rfl) (fun _ _ _ h => h) (Or.inl ⟨by rfl, fun _ _ => exec_slice_from rfl rfl rfl Try.underlying35 hi hz1 (by omega)⟩) (by assumption) ?_; (try simp only [put_rules]))
        (refine walkT_ready (rs := [3, 5]) (by kernel_rfl) (by simp) (by decide) ?_; refine AllT.cons rfl (fun K hK => ?_) (AllT.cons rfl (fun K hK => ?_) AllT.nil))
        · go_simp
          go_at_call 121
          refine (l1Own_any _ (c.take k) F' _ hto.out (by omega)).mono ?_
          rintro e w1 ⟨v1, rfl, ho1, hb1⟩
          rw [hlk] at ho1
          obtain ⟨a1, c1, rfl⟩ := owns_form ho1
          have S1 := Lib.hid ((Sp.start w).drew.own_call hb1 ho1)
          clear ho1
          go_wp2_with fail
          refine hK.out _ _ trivial (fun _ => ?_)
          clear hK
          (try simp only [put_rules])
          (refine walkT_ready (rs := [5]) (by kernel_rfl) (by simp) (by decide) ?_; refine AllT.cons rfl (fun K hK => ?_) AllT.nil)
          go_simp
          refine hK.out _ _ trivial (fun _ => ?_)
          clear hK
          (try simp only [put_rules])
          (refine walkT_ready (rs := [6]) (by kernel_rfl) (by simp) (by decide) ?_; refine AllT.cons rfl (fun K hK => ?_) AllT.nil)
          have S2 := Lib.hid (S1.out.alloc (.cells #[.int .i64 l] 3))
          (refine step_append_src rfl _ _ rfl Try.underlying35 hi hz0 hz1 hz2 rfl (by decide) _ k _ rfl (S2.out.own (i := 0) rfl) (some ⟨w1.heap.size, 0, none⟩) 1 1 [.int .i64 l] rfl (Src.one (by simp [go_sem])) (by simp [Value.oneCell']) (by unfold maxLen; omega) (by omega) ?_; intro v2 w2 hown2 hg2 hat2)
          have S3 := Lib.hid (S2.out.own_push (i := 0) rfl (bb _) hown2 hg2 hat2)
          obtain ⟨a2, c2, rfl⟩ := owns_form hown2
          clear hown2 hg2 hat2 S2 S1
          refine hK.out _ _ trivial (fun _ => ?_)
          clear hK
          (try simp only [put_rules])
          (refine walkT_done (by kernel_rfl) ?_)
          simp only [List.drop_succ_cons, List.drop_zero]
          have hfr2 := hfr.out.grow S3.out.below
          (refine wpList_append_src rfl _ _ rfl Try.underlying35 hi hz0 hz1 hz2 rfl (by decide) _ (k + 1) _ rfl (S3.out.own (i := 0) rfl) _ (c.length - k) _ _ rfl hfr2 (ints_one _) (by unfold maxLen; omega) (by omega) ?_; intro v5 w5 hown5 hg5 hat5)
          have S5 := S3.out.own_push (i := 0) rfl (bb _) hown5 hg5 hat5
          have ho5 := S5.owns_end (i := 0) rfl
          have hB5 := S5.below
          obtain ⟨a5, c5, rfl⟩ := owns_form ho5
          have hf : OwnsPost w (putB c l) (.returned (.slice a5 (k + 1 + (c.length - k)) c5)) w5 := by
            refine ⟨_, rfl, ?_, hB5⟩
            rw [hP.out]
            have e : (c.take k ++ l :: c.drop k).length = k + 1 + (c.length - k) := by rw [List.length_append, List.length_cons, List.length_drop, hlk]; omega
            rw [e]
            simpa using ho5
          replace hf := Lib.hid hf
          clear S5 ho5 hown5 hg5 hat5 S3 hfr2
          go_wp2_with fail
          go_ret
          exact hf.out
        · go_simp
          have S0 := Lib.hid ((Sp.start w).drew.alloc_box #[.int .i64 l] 3)
          refine hK.out _ _ trivial (fun _ => ?_)
          clear hK
          (try simp only [put_rules])
          (refine walkT_ready (rs := [3]) (by kernel_rfl) (by simp) (by decide) ?_; refine AllT.cons rfl (fun K hK => ?_) AllT.nil)
          go_simp
          go_at_call 121
          refine (l1Own_any _ (c.take k) F' _ (Ty.row_grow hto.out (bal (bb _) _)) (by omega)).mono ?_
          rintro e w1 ⟨v1, rfl, ho1, hb1⟩
          rw [hlk] at ho1
          obtain ⟨a1, c1, rfl⟩ := owns_form ho1
          have S1 := Lib.hid (S0.out.own_call hb1 ho1)
          have k9 : w1.cell? ⟨w.heap.size, 0, none⟩ = some (.int .i64 l) := S1.out.cell (i := 1) rfl (o := 0) rfl
          clear ho1 S0
          go_wp2_with fail
          refine hK.out _ _ trivial (fun _ => ?_)
          clear hK
          (try simp only [put_rules])
          (refine walkT_ready (rs := [6]) (by kernel_rfl) (by simp) (by decide) ?_; refine AllT.cons rfl (fun K hK => ?_) AllT.nil)
          (refine step_append_src rfl _ _ rfl Try.underlying35 hi hz0 hz1 hz2 rfl (by decide) _ k _ rfl (S1.out.own (i := 0) rfl) (some ⟨w.heap.size, 0, none⟩) 1 1 [.int .i64 l] rfl (Src.one k9) (by simp [Value.oneCell']) (by unfold maxLen; omega) (by omega) ?_; intro v2 w2 hown2 hg2 hat2)
          have S3 := Lib.hid (S1.out.own_push (i := 0) rfl (bb _) hown2 hg2 hat2)
          obtain ⟨a2, c2, rfl⟩ := owns_form hown2
          clear hown2 hg2 hat2 S1 k9
          refine hK.out _ _ trivial (fun _ => ?_)
          clear hK
          (try simp only [put_rules])
          (refine walkT_done (by kernel_rfl) ?_)
          simp only [List.drop_succ_cons, List.drop_zero]
          have hfr2 := hfr.out.grow S3.out.below
          (refine wpList_append_src rfl _ _ rfl Try.underlying35 hi hz0 hz1 hz2 rfl (by decide) _ (k + 1) _ rfl (S3.out.own (i := 0) rfl) _ (c.length - k) _ _ rfl hfr2 (ints_one _) (by unfold maxLen; omega) (by omega) ?_; intro v5 w5 hown5 hg5 hat5)
          have S5 := S3.out.own_push (i := 0) rfl (bb _) hown5 hg5 hat5
          have ho5 := S5.owns_end (i := 0) rfl
          have hB5 := S5.below
          obtain ⟨a5, c5, rfl⟩ := owns_form ho5
          have hf : OwnsPost w (putB c l) (.returned (.slice a5 (k + 1 + (c.length - k)) c5)) w5 := by
            refine ⟨_, rfl, ?_, hB5⟩
            rw [hP.out]
            have e : (c.take k ++ l :: c.drop k).length = k + 1 + (c.length - k) := by rw [List.length_append, List.length_cons, List.length_drop, hlk]; omega
            rw [e]
            simpa using ho5
          replace hf := Lib.hid hf
          clear S5 ho5 hown5 hg5 hat5 S3 hfr2
          go_wp2_with fail
          go_ret
          exact hf.out
      · clear hgo HR hat
        go_wp2_with fail
        refine wp_region_tail (S := (fun _ => True)) 10 (by kernel_rfl) (by kernel_rfl) ?_ ?_
        · trivial
        intro hS
        (refine walkT_take (i := 0) (v := ?_) rfl (by kernel_rfl) (by decide) (by kernel_rfl) (by kernel_rfl) (fun _ _ _ h => h) (Or.inl ⟨by rfl, ?_⟩) (by assumption) ?_; rotate_left; (focus (intro w hSw; (try dsimp only at hSw); go_simp; (try with_reducible rfl); done)); (try simp only [put_rules]))
        (refine walkT_take (i := 1) (v := ?_) rfl (by kernel_rfl) (by decide) (by kernel_rfl) (by kernel_rfl) (fun _ _ _ h => h) (Or.inl ⟨by rfl, ?_⟩) (by assumption) ?_; rotate_left; (focus (intro w hSw; (try dsimp only at hSw); go_simp; (try with_reducible rfl); done)); (try simp only [put_rules]))
        (refine walkT_take (i := 2) (v := .slice _ k cap) rfl (by kernel_rfl) (by decide) (by kernel_rfl) (by kernel_rfl) (fun _ _ _ h => h) (Or.inl ⟨by rfl, fun _ _ => exec_slice_to rfl rfl rfl Try.underlying35 hi (by omega)⟩) (by assumption) ?_; (try simp only [put_rules]))
        (refine walkT_take (i := 4) (v := ?_) rfl (by kernel_rfl) (by decide) (by kernel_rfl) (by kernel_rfl) (fun _ _ _ h => h) (Or.inl ⟨by rfl, ?_⟩) (by assumption) ?_; rotate_left; (focus (intro w hSw; (try dsimp only at hSw); go_simp; (try with_reducible rfl); done)); (try simp only [put_rules]))
        (refine walkT_take (i := 7) (v := ?_) rfl (by kernel_rfl) (by decide) (by kernel_rfl) (by kernel_rfl) (fun _ _ _ h => h) (Or.inl ⟨by rfl, ?_⟩) (by assumption) ?_; rotate_left; (focus (intro w hSw; (try dsimp only at hSw); go_simp; (try with_reducible rfl); done)); (try simp only [put_rules]))
        (refine walkT_take (i := 8) (v := ?_) rfl (by kernel_rfl) (by decide) (by kernel_rfl) (by kernel_rfl) (fun _ _ _ h => h) (Or.inl ⟨by rfl, ?_⟩) (by assumption) ?_; rotate_left; (focus (intro w hSw; (try dsimp only at hSw); go_simp; (try with_reducible rfl); done)); (try simp only [put_rules]))
        (refine walkT_take (i := 9) (v := .slice (cutA _ cap k 1) (c.length - k) (cap - k)) rfl (by kernel_rfl) (by decide) (by kernel_rfl) (by kernel_rfl) (fun _ _ _ h => h) (Or.inl ⟨by rfl, fun _ _ => exec_slice_from rfl rfl rfl Try.underlying35 hi hz1 (by omega)⟩) (by assumption) ?_; (try simp only [put_rules]))
        (refine walkT_ready (rs := [3, 5]) (by kernel_rfl) (by simp) (by decide) ?_; refine AllT.cons rfl (fun K hK => ?_) (AllT.cons rfl (fun K hK => ?_) AllT.nil))
        · go_simp
          go_at_call 121
          refine (l1Own_any _ (c.take k) F' _ hto.out (by omega)).mono ?_
          rintro e w1 ⟨v1, rfl, ho1, hb1⟩
          rw [hlk] at ho1
          obtain ⟨a1, c1, rfl⟩ := owns_form ho1
          have S1 := Lib.hid ((Sp.start w).drew.own_call hb1 ho1)
          clear ho1
          go_wp2_with fail
          refine hK.out _ _ trivial (fun _ => ?_)
          clear hK
          (try simp only [put_rules])
          (refine walkT_ready (rs := [5]) (by kernel_rfl) (by simp) (by decide) ?_; refine AllT.cons rfl (fun K hK => ?_) AllT.nil)
          go_simp
          refine hK.out _ _ trivial (fun _ => ?_)
          clear hK
          (try simp only [put_rules])
          (refine walkT_ready (rs := [6]) (by kernel_rfl) (by simp) (by decide) ?_; refine AllT.cons rfl (fun K hK => ?_) AllT.nil)
          have S2 := Lib.hid (S1.out.alloc (.cells #[.int .i64 l] 3))
          (refine step_append_src rfl _ _ rfl Try.underlying35 hi hz0 hz1 hz2 rfl (by decide) _ k _ rfl (S2.out.own (i := 0) rfl) (some ⟨w1.heap.size, 0, none⟩) 1 1 [.int .i64 l] rfl (Src.one (by simp [go_sem])) (by simp [Value.oneCell']) (by unfold maxLen; omega) (by omega) ?_; intro v2 w2 hown2 hg2 hat2)
          have S3 := Lib.hid (S2.out.own_push (i := 0) rfl (bb _) hown2 hg2 hat2)
          obtain ⟨a2, c2, rfl⟩ := owns_form hown2
          clear hown2 hg2 hat2 S2 S1
          refine hK.out _ _ trivial (fun _ => ?_)
          clear hK
          (try simp only [put_rules])
          (refine walkT_done (by kernel_rfl) ?_)
          simp only [List.drop_succ_cons, List.drop_zero]
          have hfr2 := hfr.out.grow S3.out.below
          (refine wpList_append_src rfl _ _ rfl Try.underlying35 hi hz0 hz1 hz2 rfl (by decide) _ (k + 1) _ rfl (S3.out.own (i := 0) rfl) _ (c.length - k) _ _ rfl hfr2 (ints_one _) (by unfold maxLen; omega) (by omega) ?_; intro v5 w5 hown5 hg5 hat5)
          have S5 := S3.out.own_push (i := 0) rfl (bb _) hown5 hg5 hat5
          have ho5 := S5.owns_end (i := 0) rfl
          have hB5 := S5.below
          obtain ⟨a5, c5, rfl⟩ := owns_form ho5
          have hf : OwnsPost w (putB c l) (.returned (.slice a5 (k + 1 + (c.length - k)) c5)) w5 := by
            refine ⟨_, rfl, ?_, hB5⟩
            rw [hP.out]
            have e : (c.take k ++ l :: c.drop k).length = k + 1 + (c.length - k) := by rw [List.length_append, List.length_cons, List.length_drop, hlk]; omega
            rw [e]
            simpa using ho5
          replace hf := Lib.hid hf
          clear S5 ho5 hown5 hg5 hat5 S3 hfr2
          go_wp2_with fail
          go_ret
          exact hf.out
        · go_simp
          have S0 := Lib.hid ((Sp.start w).drew.alloc_box #[.int .i64 l] 3)
          refine hK.out _ _ trivial (fun _ => ?_)
          clear hK
          (try simp only [put_rules])
          (refine walkT_ready (rs := [3]) (by kernel_rfl) (by simp) (by decide) ?_; refine AllT.cons rfl (fun K hK => ?_) AllT.nil)
          go_simp
          go_at_call 121
          refine (l1Own_any _ (c.take k) F' _ (Ty.row_grow hto.out (bal (bb _) _)) (by omega)).mono ?_
          rintro e w1 ⟨v1, rfl, ho1, hb1⟩
          rw [hlk] at ho1
          obtain ⟨a1, c1, rfl⟩ := owns_form ho1
          have S1 := Lib.hid (S0.out.own_call hb1 ho1)
          have k9 : w1.cell? ⟨w.heap.size, 0, none⟩ = some (.int .i64 l) := S1.out.cell (i := 1) rfl (o := 0) rfl
          clear ho1 S0
          go_wp2_with fail
          refine hK.out _ _ trivial (fun _ => ?_)
          clear hK
          (try simp only [put_rules])
          (refine walkT_ready (rs := [6]) (by kernel_rfl) (by simp) (by decide) ?_; refine AllT.cons rfl (fun K hK => ?_) AllT.nil)
          (refine step_append_src rfl _ _ rfl Try.underlying35 hi hz0 hz1 hz2 rfl (by decide) _ k _ rfl (S1.out.own (i := 0) rfl) (some ⟨w.heap.size, 0, none⟩) 1 1 [.int .i64 l] rfl (Src.one k9) (by simp [Value.oneCell']) (by unfold maxLen; omega) (by omega) ?_; intro v2 w2 hown2 hg2 hat2)
          have S3 := Lib.hid (S1.out.own_push (i := 0) rfl (bb _) hown2 hg2 hat2)
          obtain ⟨a2, c2, rfl⟩ := owns_form hown2
          clear hown2 hg2 hat2 S1 k9
          refine hK.out _ _ trivial (fun _ => ?_)
          clear hK
          (try simp only [put_rules])
          (refine walkT_done (by kernel_rfl) ?_)
          simp only [List.drop_succ_cons, List.drop_zero]
          have hfr2 := hfr.out.grow S3.out.below
          (refine wpList_append_src rfl _ _ rfl Try.underlying35 hi hz0 hz1 hz2 rfl (by decide) _ (k + 1) _ rfl (S3.out.own (i := 0) rfl) _ (c.length - k) _ _ rfl hfr2 (ints_one _) (by unfold maxLen; omega) (by omega) ?_; intro v5 w5 hown5 hg5 hat5)
          have S5 := S3.out.own_push (i := 0) rfl (bb _) hown5 hg5 hat5
          have ho5 := S5.owns_end (i := 0) rfl
          have hB5 := S5.below
          obtain ⟨a5, c5, rfl⟩ := owns_form ho5
          have hf : OwnsPost w (putB c l) (.returned (.slice a5 (k + 1 + (c.length - k)) c5)) w5 := by
            refine ⟨_, rfl, ?_, hB5⟩
            rw [hP.out]
            have e : (c.take k ++ l :: c.drop k).length = k + 1 + (c.length - k) := by rw [List.length_append, List.length_cons, List.length_drop, hlk]; omega
            rw [e]
            simpa using ho5
          replace hf := Lib.hid hf
          clear S5 ho5 hown5 hg5 hat5 S3 hfr2
          go_wp2_with fail
          go_ret
          exact hf.out
end Go.Proofs.Ytbemodacpimiiaa

/- Contracts: clauses that are drawn. -/
namespace Go.Proofs.Ytbemodacpimiiaa
open Go.RowKit

theorem own_row {w : World} {B : Nat} {e : TypeId} {v : Value} {cs : List Int} (h : w.ownsRow B e 1 v cs.length (cs.map (.int .i64))) (hok : ∀ c ∈ cs, I64 c) : ∃ F, Ty.int.row true w v cs F ∧ F.Nodup ∧ ∀ b ∈ F, B ≤ b := by
  obtain ⟨F, hr, hF, hB⟩ := Ty.row_of_owns (T := Ty.int) h rfl (by decide) (Ty.all_int hok)
  refine ⟨F, hr, ?_, ?_⟩
  · rcases hF with rfl | ⟨g, _, _, _, rfl⟩ <;> simp
  · rcases hF with rfl | ⟨g, hg, _, _, rfl⟩
    · simp
    · intro b hb
      simp at hb
      omega
/-- Numbers that lie within bounds. -/
def Within (m : Int) (c : List Int) : Prop := ∀ x ∈ c, -m ≤ x ∧ x ≤ m
theorem Within.i64 {m : Int} {c : List Int} (h : Within m c) (hm : m ≤ 1000000) : ∀ x ∈ c, I64 x := fun x hx => by
  have := h x hx; unfold I64; omega
theorem within_without {m : Int} {c : List Int} (h : Within m c) (v : Int) : Within m (withoutB c v) := fun x hx => h x (List.mem_filter.1 hx).1
theorem within_put {m : Int} {c : List Int} {l : Int} (h : Within m c) (hl : -m ≤ l ∧ l ≤ m) : Within m (putB c l) := fun x hx => by
  unfold putB at hx
  rcases List.mem_append.1 hx with hx | hx
  · exact h x (List.mem_of_mem_take hx)
  · rcases List.mem_cons.1 hx with rfl | hx
    · exact hl
    · exact h x (List.mem_of_mem_drop hx)
/-- A drawn row of numbers. -/
def RowPost (n : Nat) (R : List Int → Prop) (A g : Nat) (ca : Option Addr) (cl cc : Nat) (w : World) (e : Ending) (w' : World) : Prop :=
  ∃ v c, e = .returned v ∧ w'.ownsRow w.heap.size 3 1 v c.length (c.map (.int .i64)) ∧ c.length ≤ n ∧ R c ∧ CurIs A g ca cl cc w' ∧ Chg [g] w w'

set_option maxRecDepth 100000 in
set_option maxHeartbeats 8000000 in
theorem cur_clause (vars : Int) (hv : -1 ≤ vars ∧ vars ≤ 13) (A g : Nat) (ca : Option Addr) (cl cc : Nat) (w : World) (h : CurIs A g ca cl cc w) (hA : A ≤ 50000000) :
    Calls Try.prog 142 #[.pointer (some ⟨g, 0, none⟩), .int .i64 vars] w (RowPost 4 (Within 13) (A + 60) g ca cl cc w) := by
  have hg := h.lt
  have S0 := (CS.start h).own_made 3 1
  have S2 := Lib.hid (S0.alloc (.cells #[.int .i64 1, .int .i64 2, .int .i64 2, .int .i64 3, .int .i64 3, .int .i64 4, .int .i64 0, .int .i64 2] 3))
  have hcall := Lib.hid (cur_among 0 4 (w.heap.size + 1) 0 8 8 A g ca cl cc _ S2.out.cur (by omega) (by decide) (by decide) (ints_new (by simp) fun j hj => by
    match j, hj with
    | 0, _ => exact ⟨_, rfl, by decide, by decide⟩
    | 1, _ => exact ⟨_, rfl, by decide, by decide⟩
    | 2, _ => exact ⟨_, rfl, by decide, by decide⟩
    | 3, _ => exact ⟨_, rfl, by decide, by decide⟩
    | 4, _ => exact ⟨_, rfl, by decide, by decide⟩
    | 5, _ => exact ⟨_, rfl, by decide, by decide⟩
    | 6, _ => exact ⟨_, rfl, by decide, by decide⟩
    | 7, _ => exact ⟨_, rfl, by decide, by decide⟩) (by omega))
  clear S0
  go_enter Try.func142, Try.ntmps142
  go_wp2_with fail
  refine hcall.out.mono ?_
  rintro e w2 ⟨_, ⟨m0, hm0, hm1, rfl⟩, rfl, hi2, hc2⟩
  have S3 := S2.out.turn hi2 hc2
  obtain ⟨m, rfl⟩ := Int.eq_ofNat_of_zero_le hm0
  have HS0 : Hid (CS w g ca cl cc (A + 10 + 10 * (4 - m)) w2 [Own 3 1 (.slice (some ⟨w.heap.size, 0, none⟩) ([] : List Int).length 0) ([] : List Int).length (([] : List Int).map (.int .i64))]) := S3.mono (by omega)
  clear S2 S3 hcall hi2 hc2
  go_wp2_with fail
  go_loopw [5, 6, 7] (fun vo vn _ wr => ∃ (m : Nat) (c : List Int) (B : Option Addr) (cap : Nat), m ≤ 4 ∧ c.length + m ≤ 4 ∧ vn = .int .i64 m ∧ vo = .slice B c.length cap ∧ Hid (Within 13 c) ∧ Hid (CS w g ca cl cc (A + 10 + 10 * (4 - m)) wr [Own 3 1 (.slice B c.length cap) c.length (c.map (.int .i64))])) (fun _ vn _ _ => (intOf vn).toNat)
  case atStart => exact ⟨m, [], _, _, by omega, by simp; omega, rfl, rfl, fun x hx => by simp at hx, HS0⟩
  case round =>
    obtain ⟨m, c, B, cap, hm4, hcm, rfl, rfl, HW, HS⟩ := hrel
    clear HS0
    go_upto_region 3 with fail
    go_cut [17] (fun s wx => ∃ q : Bool, s = .bool q ∧ Hid (q = true → 0 < m ∧ 0 < vars) ∧ Hid (CS w g ca cl cc (A + 10 + 10 * (4 - m)) wx [Own 3 1 (.slice B c.length cap) c.length (c.map (.int .i64))]))
    case first =>
      have hcond : (0 < m ∧ 0 < vars) ∨ ¬ 0 < m ∨ (0 < m ∧ ¬ 0 < vars) := by omega
      rcases hcond with ⟨hm, hn0⟩ | hm | ⟨hm, hn0⟩
      · have d1 : decide ((0 : Int) < (m : Int)) = true := decide_eq_true (by omega)
        have d2 : decide ((0 : Int) < vars) = true := decide_eq_true (by omega)
        go_wp2_with fail
        go_meet
        exact ⟨true, rfl, fun _ => ⟨hm, hn0⟩, HS⟩
      · have d1 : decide ((0 : Int) < (m : Int)) = false := decide_eq_false (by omega)
        go_wp2_with fail
        go_meet
        exact ⟨false, rfl, (fun e => by cases e), HS⟩
      · have d1 : decide ((0 : Int) < (m : Int)) = true := decide_eq_true (by omega)
        have d2 : decide ((0 : Int) < vars) = false := decide_eq_false (by omega)
        go_wp2_with fail
        go_meet
        exact ⟨false, rfl, (fun e => by cases e), HS⟩
    case rest =>
    clear HS
    obtain ⟨q, rfl, hq, HS⟩ := hcut
    cases q
    · have ho := Lib.hid (HS.out.owns_end (i := 0) rfl)
      have hI := Lib.hid (HS.out.cur.mono (show A + 10 + 10 * (4 - m) ≤ A + 60 by omega))
      have hC := Lib.hid HS.out.chg
      clear HS hq
      go_wp2_with fail
      go_ret
      exact ⟨_, c, rfl, ho.out, by omega, HW.out, hI.out, hC.out⟩
    · obtain ⟨hm, hn0⟩ := hq.out rfl
      clear hq
      have hcur := Lib.hid HS.out.cur
      have hmw : IntKind.i64.wrap ((m : Int) - 1) = ((m - 1 : Nat) : Int) := by rw [IntWalk.i64_in _ (by omega)]; omega
      go_wp2_with fail
      refine (cur_pick_at (lo := 0) (hi := vars - 1) hcur.out (by omega) (by omega) (by omega) (by omega) (by omega)).mono ?_
      rintro e w3 ⟨_, ⟨x, hx0, hx1, rfl⟩, rfl, hi3, hc3⟩
      have hxw : IntKind.i64.wrap (1 + x) = 1 + x := IntWalk.i64_in _ (by omega)
      have hxw2 : IntKind.i64.wrap (-(1 + x)) = -(1 + x) := IntWalk.i64_in _ (by omega)
      have S3 := HS.out.turn hi3 hc3
      obtain ⟨F, hr, _, _⟩ := own_row (S3.own (i := 0) rfl) (HW.out.i64 (by decide))
      have hwo := Lib.hid (l2Without_any _ c (1 + x) F w3 (Ty.row_down hr) (by omega))
      replace S3 := Lib.hid S3
      clear HS hcur hi3 hc3 hr
      go_wp2_with fail
      refine hwo.out.mono ?_
      rintro e w4 ⟨v4, rfl, ho4, hb4⟩
      have S4 := (S3.out.own_new hb4 (owns_zero ho4) (owns_ge ho4)).third2
      have HW4 := Lib.hid (within_without HW.out (1 + x))
      have hl4 : (withoutB c (1 + x)).length ≤ c.length := List.length_filter_le _ _
      obtain ⟨B4, cap4, rfl⟩ := own_slice ho4
      generalize withoutB c (1 + x) = c4 at *
      replace S4 := Lib.hid S4
      clear S3 hwo ho4 hb4 HW
      go_wp2_with fail
      refine (cur_one 2 _ g ca cl cc _ S4.out.cur (by omega) (by omega)).mono ?_
      rintro e w5 ⟨_, ⟨q, rfl⟩, rfl, hi5, hc5⟩
      have S5 := Lib.hid (S4.out.turn hi5 hc5)
      clear S4 hi5 hc5
      go_upto_if 28 with fail
      go_cut [7] (fun s wx => ∃ l : Int, s = .int .i64 l ∧ -13 ≤ l ∧ l ≤ 13 ∧ Hid (CS w g ca cl cc (A + 10 + 10 * (4 - m) + 4) wx [Own 3 1 (.slice B4 c4.length cap4) c4.length (c4.map (.int .i64))]))
      case first =>
        cases q
        · go_wp2_with fail
          go_meet
          exact ⟨1 + x, rfl, by omega, by omega, S5.out.mono (by omega)⟩
        · go_wp2_with fail
          go_meet
          exact ⟨-(1 + x), rfl, by omega, by omega, S5.out.mono (by omega)⟩
      case rest =>
      clear S5
      obtain ⟨l, rfl, hl0, hl1, HS⟩ := hcut
      obtain ⟨F5, hr5, _, _⟩ := own_row (HS.out.own (i := 0) rfl) (HW4.out.i64 (by decide))
      have hpu := Lib.hid (l2Put_any _ c4 l F5 _ (Ty.row_down hr5) (by omega))
      clear hr5
      go_wp2_with fail
      refine hpu.out.mono ?_
      rintro e w6 ⟨v6, rfl, ho6, hb6⟩
      have S6 := (HS.out.own_new hb6 (owns_zero ho6) (owns_ge ho6)).third2
      have HW6 := Lib.hid (within_put HW4.out ⟨hl0, hl1⟩)
      have hl6 := put_len c4 l
      obtain ⟨B6, cap6, rfl⟩ := own_slice ho6
      generalize putB c4 l = c6 at *
      have S7 : Hid (CS w g ca cl cc (A + 10 + 10 * (4 - (m - 1))) w6 [Own 3 1 (.slice B6 c6.length cap6) c6.length (c6.map (.int .i64))]) := S6.mono (by omega)
      replace hl6 := Lib.hid hl6
      clear HS hpu ho6 hb6 S6
      go_wp2_with fail
      go_roundw
      case rel => exact ⟨m - 1, c6, B6, cap6, by omega, by rw [hl6.out]; omega, rfl, rfl, HW6, S7⟩
      case measure => simp [intOf]; omega
end Go.Proofs.Ytbemodacpimiiaa

/- Contracts: total assignments and the value of a clause, in the reference. -/
namespace Go.Proofs.Ytbemodacpimiiaa
open Go.RowKit

/-- The total assignment of bits. -/
def totI (b i : Nat) : Int := if b.testBit i then (i : Int) + 1 else -((i : Int) + 1)
def totB (n b : Nat) : List Int := (List.range n).map (totI b)
theorem tot_len (n b : Nat) : (totB n b).length = n := by simp [totB]
theorem tot_snoc (n b : Nat) : totB (n + 1) b = totB n b ++ [totI b n] := by simp [totB, List.range_succ]
theorem tot_ok (n b : Nat) (hn : n ≤ 1000) : ∀ x ∈ totB n b, I64 x := by
  intro x hx
  obtain ⟨i, hi, rfl⟩ := List.mem_map.1 hx
  have := List.mem_range.1 hi
  unfold totI I64
  split <;> omega
theorem has_tot {n b : Nat} {l : Int} (h0 : l ≠ 0) (h1 : -(n : Int) ≤ l) (h2 : l ≤ n) : hasI (totB n b) l = litT b l := by
  unfold hasI litT
  rw [Bool.eq_iff_iff, List.contains_iff_mem]
  constructor
  · intro hm
    obtain ⟨i, hi, he⟩ := List.mem_map.1 hm
    unfold totI at he
    by_cases ht : b.testBit i = true
    · rw [if_pos ht] at he
      rw [show l.natAbs - 1 = i by omega, ht, decide_eq_true (by omega)]; rfl
    · rw [if_neg ht] at he
      rw [show l.natAbs - 1 = i by omega, Bool.eq_false_iff.2 ht, decide_eq_false (by omega)]; rfl
  · intro hb
    refine List.mem_map.2 ⟨l.natAbs - 1, List.mem_range.2 (by omega), ?_⟩
    unfold totI
    by_cases hp : 0 < l
    · rw [decide_eq_true hp] at hb
      have : b.testBit (l.natAbs - 1) = true := by simpa using hb
      rw [if_pos this]; omega
    · rw [decide_eq_false hp] at hb
      have : b.testBit (l.natAbs - 1) = false := by simpa using hb
      rw [this, if_neg (by simp)]; omega

set_option maxRecDepth 100000 in
set_option maxHeartbeats 4000000 in
theorem l3Total_any (n b : Nat) (hn : n ≤ 12) (hb : b < 2 ^ 62) (w : World) :
    Calls Try.prog 172 #[.int .i64 n, .int .i64 b] w fun e w' => ∃ B k, e = .returned (.slice B n k) ∧ Sp w w' [Own 3 1 (.slice B n k) n ((totB n b).map (.int .i64))] := by
  have S0 := Lib.hid ((Sp.start w).own_made 3 1)
  obtain ⟨i0, hi, hz0, hz1, hz2⟩ := info_parts infoInt
  go_enter Try.func172, Try.ntmps172
  go_wp2_with fail
  go_loopw [5, 6] (fun vo vi wr => ∃ (k : Nat) (v : Int) (B : Option Addr) (cc : Nat), k ≤ n ∧ vi = .int .i64 v ∧ Hid (v = (k : Int) + 1) ∧ vo = .slice B k cc ∧ Hid (Sp w wr [Own 3 1 (.slice B k cc) k ((totB k b).map (.int .i64))])) (fun _ vi _ => n + 1 - (intOf vi).toNat)
  case atStart => exact ⟨0, 1, _, _, Nat.zero_le _, rfl, rfl, rfl, S0⟩
  case round =>
    obtain ⟨k, v, B, cc, hk, rfl, hve, rfl, HS⟩ := hrel
    clear S0
    have hve' := hve.out
    by_cases hlt : k < n
    · have hle : v ≤ (n : Int) := by omega
      have hv0 : 1 ≤ v := by omega
      have hand := bit_at b hb k
      rw [Nat.min_eq_left (by omega)] at hand
      have hw1 : IntKind.i64.wrap (v - 1) = (k : Int) := by rw [IntWalk.i64_in _ (by omega)]; omega
      have hw2 : IntKind.i64.wrap (k : Int) = (k : Int) := by rw [IntWalk.i64_in _ (by omega)]
      have hw3 : IntKind.i64.wrap (-v) = -v := by rw [IntWalk.i64_in _ (by omega)]
      have hw4 : IntKind.i64.wrap (v + 1) = v + 1 := by rw [IntWalk.i64_in _ (by omega)]
      have hsn := Lib.hid (tot_snoc k b)
      have htI : Hid (totI b k = if b.testBit k then v else -v) := by unfold Hid totI; rw [hve']
      have hk12 : k ≤ 12 := by omega
      clear hve'
      generalize b.testBit k = q at *
      cases q
      · simp only [Bool.false_eq_true, if_false] at hand htI
        have S2 := HS.out.alloc_box #[.int .i64 (-v)] 3
        have kB := S2.cell (i := 0) rfl (o := 0) rfl
        replace S2 := Lib.hid S2
        clear HS
        go_wp2_with (at_builtin; refine wpList_append_src rfl _ _ rfl Try.underlying35 hi hz0 hz1 hz2 rfl (by decide) _ _ _ rfl (S2.out.own (i := 1) rfl) _ 1 1 [.int .i64 (-v)] rfl (Src.one kB) (by simp [Value.oneCell']) ?c3 ?c4 ?_)
        case c3 => unfold maxLen; omega
        case c4 => omega
        intro vY wY hownY hgY hatY
        have S4 := (S2.out.own_push (i := 1) rfl (bb _) hownY hgY (by simpa using hatY)).tail
        obtain ⟨aY, cY, rfl⟩ := own_slice hownY
        have HS3 : Hid (Sp w wY [Own 3 1 (.slice aY (k + 1) cY) (k + 1) ((totB (k + 1) b).map (.int .i64))]) := by
          unfold Hid; rw [hsn.out, List.map_append, htI.out]; exact S4
        clear S2 S4 kB hownY hgY hatY hsn
        go_wp2_with fail
        go_roundw
        case rel => exact ⟨k + 1, v + 1, aY, cY, by omega, rfl, by have := hve.out; unfold Hid; omega, rfl, HS3⟩
        case measure => have := hve.out; simp [intOf]; omega
      · simp only [if_true] at hand htI
        have S2 := HS.out.alloc_box #[.int .i64 v] 3
        have kB := S2.cell (i := 0) rfl (o := 0) rfl
        replace S2 := Lib.hid S2
        clear HS
        go_wp2_with (at_builtin; refine wpList_append_src rfl _ _ rfl Try.underlying35 hi hz0 hz1 hz2 rfl (by decide) _ _ _ rfl (S2.out.own (i := 1) rfl) _ 1 1 [.int .i64 v] rfl (Src.one kB) (by simp [Value.oneCell']) ?c3 ?c4 ?_)
        case c3 => unfold maxLen; omega
        case c4 => omega
        intro vY wY hownY hgY hatY
        have S4 := (S2.out.own_push (i := 1) rfl (bb _) hownY hgY (by simpa using hatY)).tail
        obtain ⟨aY, cY, rfl⟩ := own_slice hownY
        have HS3 : Hid (Sp w wY [Own 3 1 (.slice aY (k + 1) cY) (k + 1) ((totB (k + 1) b).map (.int .i64))]) := by
          unfold Hid; rw [hsn.out, List.map_append, htI.out]; exact S4
        clear S2 S4 kB hownY hgY hatY hsn
        go_wp2_with fail
        go_roundw
        case rel => exact ⟨k + 1, v + 1, aY, cY, by omega, rfl, by have := hve.out; unfold Hid; omega, rfl, HS3⟩
        case measure => have := hve.out; simp [intOf]; omega
    · obtain rfl : k = n := by omega
      have hgt : ¬ v ≤ (k : Int) := by omega
      clear hve'
      go_wp2_with fail
      go_ret
      exact ⟨B, cc, rfl, HS.out⟩

/-- What l3Value tells. -/
def valP (c a : List Int) (e : Ending) : Prop := ∃ z : Int, e = .returned (.int .i64 z) ∧ (z == 1) = c.any (hasI a)
set_option maxRecDepth 100000 in
set_option maxHeartbeats 4000000 in
theorem l3Value_any (c a : List Int) (hc : ∀ l ∈ c, LitS l) (hl : c.length ≤ 1000000) (A B : Option Addr) (k k' : Nat) (F : List Nat) (w : World) (hx : IntsAt w A c) (hy : Ty.int.row false w (.slice B a.length k') a F) :
    Calls Try.prog 173 #[.slice A c.length k, .slice B a.length k'] w fun e w' => valP c a e ∧ Below w.heap.size w w' := by
  have hN := Lib.hid hx
  have hM := Lib.hid hy
  have hcc := Lib.hid hc
  have HB0 := Lib.hid (bb w)
  clear hx hy hc
  go_enter Try.func173, Try.ntmps173
  go_wp2_with fail
  go_loopw [5, 6] (fun vz vi wr => ∃ (j : Nat) (z : Int), j ≤ c.length ∧ vi = .int .i64 j ∧ vz = .int .i64 z ∧ (z = -1 ∨ z = 0) ∧ Hid ((c.take j).any (hasI a) = false) ∧ Hid (Below w.heap.size w wr)) (fun _ vi _ => c.length - (intOf vi).toNat)
  case atStart => exact ⟨0, -1, Nat.zero_le _, rfl, rfl, .inl rfl, rfl, HB0⟩
  case round =>
    obtain ⟨j, z, hj, rfl, rfl, hz, HD, HB⟩ := hrel
    clear HB0
    by_cases hlt : j < c.length
    · obtain ⟨b, off, rfl, m0⟩ := (hN.out.grow HB.out).at_ j hlt
      have hlit := hcc.out _ (List.getElem_mem hlt)
      have hw1 : IntKind.i64.wrap (-c[j]) = -c[j] := IntWalk.i64_in _ (by unfold LitS at hlit; omega)
      have hcall := Lib.hid (l2Has_any _ a F c[j] wr (Ty.row_below hM.out HB.out (Ty.row_lt hM.out)))
      have hcall2 := Lib.hid (l2Has_any _ a F (-c[j]) wr (Ty.row_below hM.out HB.out (Ty.row_lt hM.out)))
      have hno := Lib.hid (any_next (p := hasI a) hlt HD.out)
      have hyes : Hid (hasI a c[j] = true → c.any (hasI a) = true) := fun h => List.any_eq_true.2 ⟨_, List.getElem_mem hlt, h⟩
      generalize c[j] = l at *
      clear hlit
      cases h1 : hasI a l
      · have hD := Lib.hid (hno.out h1)
        rw [h1] at hcall
        clear hyes hno HD
        cases h2 : hasI a (-l)
        all_goals
          rw [h2] at hcall2
          go_wp2_with fail
          refine hcall.out.mono ?_
          rintro e w1 ⟨rfl, rfl⟩
          go_wp2_with fail
          refine hcall2.out.mono ?_
          rintro e w1 ⟨rfl, rfl⟩
          go_wp2_with fail
          go_roundw
          case rel => exact ⟨j + 1, _, by omega, by go_num, rfl, by first | exact hz | exact .inr rfl, hD, HB⟩
          case measure => simp [intOf]; omega
      · have hR := Lib.hid (hyes h1)
        rw [h1] at hcall
        clear hyes hno HD
        go_wp2_with fail
        refine hcall.out.mono ?_
        rintro e w1 ⟨rfl, rfl⟩
        go_wp2_with fail
        go_ret
        exact ⟨⟨1, rfl, by rw [hR.out]; rfl⟩, HB.out⟩
    · obtain rfl : j = c.length := by omega
      have hR : Hid (c.any (hasI a) = false) := by have := HD.out; rwa [List.take_length] at this
      go_wp2_with fail
      go_ret
      exact ⟨⟨z, rfl, by rw [hR.out]; rcases hz with rfl | rfl <;> rfl⟩, HB.out⟩
end Go.Proofs.Ytbemodacpimiiaa

/- Plain facts on diagrams: constant values, how often, the first bits. No program in sight. -/
namespace Go.Proofs.Ytbemodacpimiiaa

theorem plan_const (x : Bool) : ∀ (k v b : Nat) (ns : List Nd), planF (fun _ => x) k v b ns = (ns, if x then 1 else 0)
  | 0, v, b, ns => rfl
  | k + 1, v, b, ns => by rw [planF, plan_const x k, plan_const x k, if_pos rfl]
theorem dg_const {n : Nat} {f : Nat → Bool} {x : Bool} (h : ∀ b, b < 2 ^ n → f b = x) : dgR n f = (if x then 1 else 0) ∧ dgN n f = [] := by
  obtain ⟨h1, h2⟩ := dg_congr (g := fun _ => x) h
  rw [h1, h2]
  unfold dgR dgN
  rw [plan_const]
  exact ⟨rfl, rfl⟩
theorem valD_zero (ns : List Nd) (b : Nat) : valD 0 ns b = false := rfl
theorem valD_one (ns : List Nd) (b : Nat) : valD 1 ns b = true := rfl
theorem dg_zero {n : Nat} {f : Nat → Bool} : dgR n f = 0 ↔ ∀ b, b < 2 ^ n → f b = false := by
  refine ⟨fun h b hb => ?_, fun h => (dg_const h).1⟩
  rw [← dg_val (f := f) hb, h, valD_zero]
theorem dg_one {n : Nat} {f : Nat → Bool} : dgR n f = 1 ↔ ∀ b, b < 2 ^ n → f b = true := by
  refine ⟨fun h b hb => ?_, fun h => (dg_const h).1⟩
  rw [← dg_val (f := f) hb, h, valD_one]
theorem dg_zero_lit {n : Nat} {f : Nat → Bool} : (dgR n f == 0) = !((List.range (2 ^ n)).any f) := by
  rw [Bool.eq_iff_iff, beq_iff_eq, dg_zero]
  simp [List.mem_range]
theorem cnt_zero {n : Nat} {f : Nat → Bool} (h : cntB n f = 0) : ∀ b, b < 2 ^ n → f b = false := fun b hb => by
  unfold cntB at h
  have := List.countP_eq_zero.1 h b (List.mem_range.2 hb)
  simpa using this
theorem cnt_all {n : Nat} {f : Nat → Bool} (h : cntB n f = 2 ^ n) : ∀ b, b < 2 ^ n → f b = true := fun b hb => by
  unfold cntB at h
  have h2 : (List.range (2 ^ n)).countP f = (List.range (2 ^ n)).length := by rw [h, List.length_range]
  exact List.countP_eq_length.1 h2 b (List.mem_range.2 hb)
theorem root_law {n : Nat} {f : Nat → Bool} (h : 1 < dgR n f) : cntB n f ≠ 0 ∧ cntB n f ≠ 2 ^ n := by
  refine ⟨fun e => ?_, fun e => ?_⟩
  · rw [dg_zero.2 (cnt_zero e)] at h; exact absurd h (by decide)
  · rw [dg_one.2 (cnt_all e)] at h; exact absurd h (by decide)
theorem cnt_own {n : Nat} (f : Nat → Bool) : cntB n (valD (dgR n f) (dgN n f)) = cntB n f := cnt_congr fun _ hb => dg_val hb

theorem modT_snoc {xss : List (List Int)} {i : Nat} (h : i < xss.length) (b : Nat) : modT (xss.take (i + 1)) b = (modT (xss.take i) b && clT xss[i] b) := by
  unfold modT
  rw [List.take_succ_eq_append_getElem h, List.all_append]
  simp
theorem modT_none (b : Nat) : modT [] b = true := rfl
/-- The first one of a trace, and the next. -/
theorem trace_first {n : Nat} {xss : List (List Int)} (h : 0 < xss.length) : dgN n (modT (xss.take (0 + 1))) = dgN n (clT xss[0]) ∧ dgR n (modT (xss.take (0 + 1))) = dgR n (clT xss[0]) :=
  dg_congr fun b _ => by rw [modT_snoc h]; simp [modT_none]
theorem trace_next {n i : Nat} {xss : List (List Int)} (h : i < xss.length) :
    dgN n (fun b => valD (dgR n (modT (xss.take i))) (dgN n (modT (xss.take i))) b && valD (dgR n (clT xss[i])) (dgN n (clT xss[i])) b) = dgN n (modT (xss.take (i + 1))) ∧
    dgR n (fun b => valD (dgR n (modT (xss.take i))) (dgN n (modT (xss.take i))) b && valD (dgR n (clT xss[i])) (dgN n (clT xss[i])) b) = dgR n (modT (xss.take (i + 1))) :=
  dg_congr fun b hb => by rw [dg_val hb, dg_val hb, modT_snoc h]

/-- Bits told from the other end: the first k variables of n. -/
def revK (n c : Nat) : Nat → Nat
  | 0 => 0
  | k + 1 => if c.testBit (n - (k + 1)) then revK n c k + 2 ^ k else revK n c k
def revB (n c : Nat) : Nat := revK n c n
theorem revK_lt (n c : Nat) : ∀ k, revK n c k < 2 ^ k
  | 0 => by simp [revK]
  | k + 1 => by
    have := revK_lt n c k
    rw [revK, Nat.pow_succ]
    split <;> omega
theorem revK_bit (n c : Nat) : ∀ (k j : Nat), (revK n c k).testBit j = (decide (j < k) && c.testBit (n - (j + 1)))
  | 0, j => by simp [revK]
  | k + 1, j => by
    have hl := revK_lt n c k
    rw [revK]
    by_cases hj : j < k
    · have h1 : decide (j < k + 1) = true := decide_eq_true (by omega)
      rw [h1]
      split
      · rw [Nat.add_comm, Nat.testBit_two_pow_add_gt hj, revK_bit n c k j, decide_eq_true hj]
      · rw [revK_bit n c k j, decide_eq_true hj]
    · by_cases he : j = k
      · subst he
        rw [decide_eq_true (show j < j + 1 by omega), Bool.true_and]
        split
        · rename_i h
          rw [h, Nat.add_comm, Nat.testBit_two_pow_add_eq, Nat.testBit_lt_two_pow hl]; rfl
        · rename_i h
          rw [Nat.testBit_lt_two_pow hl]
          exact (Bool.eq_false_iff.2 h).symm
      · have h2 : decide (j < k + 1) = false := decide_eq_false (by omega)
        rw [h2, Bool.false_and]
        refine Nat.testBit_lt_two_pow ?_
        have h3 : 2 ^ (k + 1) ≤ 2 ^ j := Nat.pow_le_pow_right (by decide) (by omega)
        rw [Nat.pow_succ] at h3
        split <;> omega
theorem revB_lt (n c : Nat) : revB n c < 2 ^ n := revK_lt n c n
theorem revB_bit {n j : Nat} (c : Nat) (h : j < n) : (revB n c).testBit j = c.testBit (n - (j + 1)) := by
  unfold revB; rw [revK_bit, decide_eq_true h, Bool.true_and]
theorem revB_rev {n b : Nat} (h : b < 2 ^ n) : revB n (revB n b) = b := by
  apply Nat.eq_of_testBit_eq
  intro j
  by_cases hj : j < n
  · rw [revB_bit _ hj, revB_bit _ (by omega)]
    congr 1; omega
  · have h2 : 2 ^ n ≤ 2 ^ j := Nat.pow_le_pow_right (by decide) (by omega)
    rw [Nat.testBit_lt_two_pow (Nat.lt_of_lt_of_le (revB_lt n _) h2), Nat.testBit_lt_two_pow (Nat.lt_of_lt_of_le h h2)]

/-- The first bits, the variable 1 turning slowest. -/
def firstC (n : Nat) (f : Nat → Bool) : Option Nat := (List.range (2 ^ n)).find? fun c => f (revB n c)
def firstB (n : Nat) (f : Nat → Bool) : Bool := (List.range (2 ^ n)).any fun c => f (revB n c)
def firstL (n : Nat) (f : Nat → Bool) : List Int := match firstC n f with
  | some c => totB n (revB n c)
  | none => []
theorem first_cnt (n : Nat) (f : Nat → Bool) : firstB n f = decide (0 < cntB n f) := by
  unfold firstB cntB
  rw [Bool.eq_iff_iff, decide_eq_true_eq, List.any_eq_true, List.countP_pos_iff]
  constructor
  · rintro ⟨c, hc, h⟩
    exact ⟨revB n c, List.mem_range.2 (revB_lt n c), h⟩
  · rintro ⟨b, hb, h⟩
    exact ⟨revB n b, List.mem_range.2 (revB_lt n b), by rw [revB_rev (List.mem_range.1 hb)]; exact h⟩
theorem first_none {n : Nat} {f : Nat → Bool} (h : ∀ c, c < 2 ^ n → f (revB n c) = false) : firstB n f = false ∧ firstL n f = [] := by
  have h1 : firstC n f = none := by
    unfold firstC
    rw [List.find?_eq_none]
    intro c hc
    rw [h c (List.mem_range.1 hc)]; simp
  refine ⟨?_, by unfold firstL; rw [h1]⟩
  unfold firstB
  rw [List.any_eq_false]
  intro c hc
  rw [h c (List.mem_range.1 hc)]; simp
theorem first_some {n c : Nat} {f : Nat → Bool} (hc : c < 2 ^ n) (h : ∀ e, e < c → f (revB n e) = false) (h2 : f (revB n c) = true) : firstB n f = true ∧ firstL n f = totB n (revB n c) := by
  have h1 : firstC n f = some c := by
    unfold firstC
    rw [List.find?_range_eq_some]
    exact ⟨h2, List.mem_range.2 hc, fun j hj => by rw [h j hj]; rfl⟩
  refine ⟨?_, by unfold firstL; rw [h1]⟩
  unfold firstB
  rw [List.any_eq_true]
  exact ⟨c, List.mem_range.2 hc, h2⟩

/-- The i-th clause over the first n variables: its signs. -/
def rowS (n c : Nat) : List Int := (List.range n).map fun (j : Nat) => if c.testBit (n - (j + 1)) then -((j : Int) + 1) else (j : Int) + 1
theorem rowS_len (n c : Nat) : (rowS n c).length = n := by simp [rowS]
theorem rowS_neg (n c : Nat) : (rowS n c).map (fun x => -x) = totB n (revB n c) := by
  unfold rowS totB
  rw [List.map_map]
  refine List.map_congr_left fun j hj => ?_
  have hj := List.mem_range.1 hj
  simp only [Function.comp]
  unfold totI
  rw [revB_bit c hj]
  split <;> omega
theorem rowS_snoc (n c : Nat) : rowS (n + 1) (2 * c) = rowS n c ++ [(n : Int) + 1] ∧ rowS (n + 1) (2 * c + 1) = rowS n c ++ [-((n : Int) + 1)] := by
  unfold rowS
  rw [List.range_succ, List.map_append, List.map_append]
  have key : ∀ (d j : Nat), j < n → d / 2 = c → d.testBit (n + 1 - (j + 1)) = c.testBit (n - (j + 1)) := fun d j hj hd => by
    rw [show n + 1 - (j + 1) = (n - (j + 1)) + 1 by omega, Nat.testBit_succ, hd]
  constructor
  · congr 1
    · exact List.map_congr_left fun j hj => by rw [key (2 * c) j (List.mem_range.1 hj) (by omega)]
    · simp [Nat.testBit_zero]
  · congr 1
    · exact List.map_congr_left fun j hj => by rw [key (2 * c + 1) j (List.mem_range.1 hj) (by omega)]
    · simp [Nat.testBit_zero]
/-- All clauses over the first n variables. -/
def sgnL (n : Nat) : List (List Int) := (List.range (2 ^ n)).map (rowS n)
theorem sgnL_len (n : Nat) : (sgnL n).length = 2 ^ n := by simp [sgnL]
theorem sgnL_zero : sgnL 0 = [[]] := rfl
theorem sgnL_get {n c : Nat} (h : c < (sgnL n).length) : (sgnL n)[c] = rowS n c := by simp [sgnL]
/-- The first c of them, each with the next variable in both ways. -/
def sgnK (n c : Nat) : List (List Int) := (List.range c).flatMap fun i => [rowS n i ++ [(n : Int) + 1], rowS n i ++ [-((n : Int) + 1)]]
theorem sgnK_succ (n c : Nat) : sgnK n (c + 1) = sgnK n c ++ [rowS n c ++ [(n : Int) + 1], rowS n c ++ [-((n : Int) + 1)]] := by simp [sgnK, List.range_succ]
theorem sgnK_eq (n : Nat) : ∀ c, sgnK n c = (List.range (2 * c)).map (rowS (n + 1))
  | 0 => rfl
  | c + 1 => by
    rw [sgnK_succ, sgnK_eq n c, show 2 * (c + 1) = 2 * c + 1 + 1 by omega, List.range_succ, List.range_succ, (rowS_snoc n c).1.symm, (rowS_snoc n c).2.symm]
    simp
theorem sgnK_all (n : Nat) : sgnK n (2 ^ n) = sgnL (n + 1) := by
  rw [sgnK_eq, sgnL, Nat.pow_succ, Nat.mul_comm]
theorem sgnK_len (n c : Nat) : (sgnK n c).length = 2 * c := by rw [sgnK_eq]; simp
theorem rowS_ok {n c : Nat} (hn : n ≤ 1000) : ∀ x ∈ rowS n c, I64 x := fun x hx => by
  unfold rowS at hx
  obtain ⟨j, hj, rfl⟩ := List.mem_map.1 hx
  have := List.mem_range.1 hj
  unfold I64
  split <;> omega
end Go.Proofs.Ytbemodacpimiiaa

/- Contracts: diagrams compared, on both sides. Printed by gen_same.py. -/
namespace Go.Proofs.Ytbemodacpimiiaa
open Go.RowKit

theorem take_same {α : Type} {xs ys : List α} {k : Nat} (h1 : k < xs.length) (h2 : k < ys.length) (h : xs.take k = ys.take k) (e : xs[k] = ys[k]) : xs.take (k + 1) = ys.take (k + 1) := by
  rw [List.take_succ_eq_append_getElem h1, List.take_succ_eq_append_getElem h2, h, e]
theorem take_diff {α : Type} {xs ys : List α} {k : Nat} (h1 : k < xs.length) (h2 : k < ys.length) (e : xs[k] ≠ ys[k]) : xs ≠ ys := fun h => e (by subst h; rfl)
theorem nd_split {v lo hi v' lo' hi' : Int} (e : (⟨v, lo, hi⟩ : Nd) ≠ ⟨v', lo', hi'⟩) : (¬ v = v') ∨ (v = v' ∧ ¬ lo = lo') ∨ (v = v' ∧ lo = lo' ∧ ¬ hi = hi') := by
  by_cases h1 : v = v'
  · by_cases h2 : lo = lo'
    · exact .inr (.inr ⟨h1, h2, fun h3 => e (by rw [h1, h2, h3])⟩)
    · exact .inr (.inl ⟨h1, h2⟩)
  · exact .inl h1
set_option maxRecDepth 100000 in
set_option maxHeartbeats 4000000 in
theorem eqNd_any (A A' : Option Addr) (c c' : Nat) (ns ms : List Nd) (w : World) (hx : NdAt w A ns) (hy : NdAt w A' ms) (hl : ns.length ≤ 1000000) (hl' : ms.length ≤ 1000000) :
    Calls Try.prog 138 #[.slice A ns.length c, .slice A' ms.length c'] w fun e w' => e = .returned (.bool (decide (ns = ms))) ∧ Below w.heap.size w w' := by
  have hN := Lib.hid hx
  have hM := Lib.hid hy
  clear hx hy
  by_cases hl3 : ns.length = ms.length
  case neg =>
    have hR : Hid (decide (ns = ms) = false) := by unfold Hid; exact decide_eq_false fun h => hl3 (by rw [h])
    have hl4 : ¬ (ns.length : Int) = ms.length := by omega
    go_enter Try.func138, Try.ntmps138
    go_wp2_with fail
    go_ret
    exact ⟨ret_bool hR.out.symm, bb _⟩
  have hB0 := Lib.hid (bb w)
  rw [hl3]
  replace hl3 := Lib.hid hl3
  go_enter Try.func138, Try.ntmps138
  go_wp2_with fail
  go_loopw [13] (fun i wr => ∃ k : Nat, k ≤ ms.length ∧ i = .int .i64 k ∧ Hid (ns.take k = ms.take k) ∧ Hid (Below w.heap.size w wr)) (fun i _ => ms.length - (intOf i).toNat)
  case atStart => exact ⟨0, Nat.zero_le _, rfl, rfl, hB0⟩
  case round =>
    obtain ⟨k, hk, rfl, HD, HS⟩ := hrel
    clear hB0
    by_cases hlt2 : k < ms.length
    · have hlt : k < ns.length := by have := hl3.out; omega
      obtain ⟨b, off, rfl, m0, m1, m2⟩ := (hN.out.grow HS.out).at_ k hlt
      obtain ⟨b', off', rfl, p0, p1, p2⟩ := (hM.out.grow HS.out).at_ k hlt2
      have k0 := cell_regrown m0
      have k1 := cell_regrown m1
      have k2 := cell_regrown m2
      have q0 := cell_regrown p0
      have q1 := cell_regrown p1
      have q2 := cell_regrown p2

      have hyes := Lib.hid (take_same hlt hlt2 HD.out)
      have hno := Lib.hid (take_diff hlt hlt2)
      generalize ns[k] = x at *
      generalize ms[k] = y at *
      obtain ⟨v, lo, hi⟩ := x
      obtain ⟨v', lo', hi'⟩ := y
      dsimp only at *
      clear m0 m1 m2 p0 p1 p2
      have hst := nd_held
      have hgu := nd_guard
      by_cases e : (⟨v, lo, hi⟩ : Nd) = ⟨v', lo', hi'⟩
      · have hD := Lib.hid (hyes.out e)
        cases e
        clear hyes hno HD hlt
        go_wp2_with fail
        refine wp_region_quiet_below (by kernel_rfl) (by kernel_rfl) ?_
        repeat (any_goals (go_big_quiet_step (fail)))
        refine wpQuiet_nil ?_
        rintro w3 ⟨p, rfl⟩
        have HS4 := Lib.hid (btr HS.out (below_regrown _ p.d p.os))
        clear HS k0 k1 k2 q0 q1 q2
        go_wp2_with fail
        go_roundw
        case rel => exact ⟨k + 1, by omega, by go_num, hD, HS4⟩
        case measure => simp [intOf]; omega
      · have hR : Hid (decide (ns = ms) = false) := by unfold Hid; simp [hno.out e]
        have hcase := nd_split e
        clear hyes hno HD e hlt
        rcases hcase with hne | ⟨rfl, hne⟩ | ⟨rfl, rfl, hne⟩
        all_goals
          go_wp2_with fail
          refine wp_region_quiet_below (by kernel_rfl) (by kernel_rfl) ?_
          repeat (any_goals (go_big_quiet_step (fail)))
          refine wpQuiet_nil ?_
          rintro w3 ⟨p, rfl⟩
          have HS4 := Lib.hid (btr HS.out (below_regrown _ p.d p.os))
          clear HS k0 k1 k2 q0 q1 q2
          go_wp2_with fail
          go_ret
          exact ⟨ret_bool hR.out.symm, HS4.out⟩
    · obtain rfl : k = ms.length := by omega
      have he : ns = ms := by
        have := HD.out
        rw [List.take_length, ← hl3.out, List.take_length] at this
        exact this
      have hR : Hid (decide (ns = ms) = true) := by unfold Hid; simp [he]
      have hB := HS.out

      clear HD he HS
      go_wp2_with fail
      go_ret
      exact ⟨ret_bool hR.out.symm, hB⟩
theorem same_and {r r' : Int} {ns ms : List Nd} : (decide (r = r') && decide (ns = ms)) = decide (r = r' ∧ ns = ms) := by
  rw [Bool.eq_iff_iff]; simp

set_option maxRecDepth 100000 in
set_option maxHeartbeats 4000000 in
theorem sameDiagram_any (r r' : Int) (A A' : Option Addr) (c c' : Nat) (ns ms : List Nd) (w : World) (hx : NdAt w A ns) (hy : NdAt w A' ms) (hl : ns.length ≤ 1000000) (hl' : ms.length ≤ 1000000) :
    Calls Try.prog 73 #[dgV r (.slice A ns.length c), dgV r' (.slice A' ms.length c')] w fun e w' => e = .returned (.bool (decide (r = r' ∧ ns = ms))) ∧ Below w.heap.size w w' := by
  have S0 := ((Sp.start w).alloc_box #[.int .i64 r, .slice A ns.length c] 34).alloc_box #[.int .i64 r', .slice A' ms.length c'] 34
  simp only [World.size_alloc] at S0
  have hcall := Lib.hid (eqNd_any A A' c c' ns ms _ (hx.grow S0.below) (hy.grow S0.below) hl hl')
  have hB := S0.below
  rw [← same_and]
  clear hx hy S0
  generalize decide (ns = ms) = q at *
  by_cases e : r = r'
  · have hR : Hid ((decide (r = r') && q) = q) := by unfold Hid; simp [e]
    subst e
    go_enter Try.func73, Try.ntmps73
    go_wp2_with fail
    refine hcall.out.mono ?_
    rintro e w1 ⟨rfl, hb1⟩
    replace hB := btr hB hb1
    clear hcall hb1
    go_wp2_with fail
    go_ret
    exact ⟨ret_bool hR.out.symm, hB⟩
  · have hR : Hid ((decide (r = r') && q) = false) := by unfold Hid; simp [e]
    clear hcall
    go_enter Try.func73, Try.ntmps73
    go_wp2_with fail
    go_ret
    exact ⟨ret_bool hR.out.symm, hB⟩
set_option maxRecDepth 100000 in
set_option maxHeartbeats 4000000 in
theorem l26Same_any (r r' : Int) (A A' : Option Addr) (c c' : Nat) (ns ms : List Nd) (w : World) (hx : NdAt w A ns) (hy : NdAt w A' ms) (hl : ns.length ≤ 1000000) (hl' : ms.length ≤ 1000000) :
    Calls Try.prog 79 #[dgV r (.slice A ns.length c), dgV r' (.slice A' ms.length c')] w fun e w' => e = .returned (.bool (decide (r = r' ∧ ns = ms))) ∧ Below w.heap.size w w' := by
  have S0 := ((Sp.start w).alloc_box #[.int .i64 r, .slice A ns.length c] 34).alloc_box #[.int .i64 r', .slice A' ms.length c'] 34
  simp only [World.size_alloc] at S0
  replace S0 := Lib.hid S0
  have hN := Lib.hid hx
  have hM := Lib.hid hy
  rw [← same_and]
  clear hx hy
  by_cases e : r = r'
  case neg =>
    have hR : Hid ((decide (r = r') && decide (ns = ms)) = false) := by unfold Hid; simp [e]
    have hB := S0.out.below
    clear S0
    go_enter Try.func79, Try.ntmps79
    go_wp2_with fail
    go_ret
    exact ⟨ret_bool hR.out.symm, hB⟩
  have hR0 : Hid ((decide (r = r') && decide (ns = ms)) = decide (ns = ms)) := by unfold Hid; simp [e]
  subst e
  rw [hR0.out]
  clear hR0
  by_cases hl3 : ns.length = ms.length
  case neg =>
    have hR : Hid (decide (ns = ms) = false) := by unfold Hid; exact decide_eq_false fun h => hl3 (by rw [h])
    have hl4 : ¬ (ns.length : Int) = ms.length := by omega
    have hB := S0.out.below
    clear S0
    go_enter Try.func79, Try.ntmps79
    go_wp2_with fail
    go_ret
    exact ⟨ret_bool hR.out.symm, hB⟩
  rw [hl3] at S0 ⊢
  replace hl3 := Lib.hid hl3
  go_enter Try.func79, Try.ntmps79
  go_wp2_with fail
  go_loopw [5] (fun i wr => ∃ k : Nat, k ≤ ms.length ∧ i = .int .i64 k ∧ Hid (ns.take k = ms.take k) ∧ Hid (Sp w wr [Box (w.heap.size + 1) 34 #[.int .i64 r, .slice A' ms.length c'], Box w.heap.size 34 #[.int .i64 r, .slice A ms.length c]])) (fun i _ => ms.length - (intOf i).toNat)
  case atStart => exact ⟨0, Nat.zero_le _, rfl, rfl, S0⟩
  case round =>
    obtain ⟨k, hk, rfl, HD, HS⟩ := hrel
    clear S0
    by_cases hlt2 : k < ms.length
    · have hlt : k < ns.length := by have := hl3.out; omega
      obtain ⟨b, off, rfl, m0, m1, m2⟩ := (hN.out.grow HS.out.below).at_ k hlt
      obtain ⟨b', off', rfl, p0, p1, p2⟩ := (hM.out.grow HS.out.below).at_ k hlt2
      have k0 := cell_regrown m0
      have k1 := cell_regrown m1
      have k2 := cell_regrown m2
      have q0 := cell_regrown p0
      have q1 := cell_regrown p1
      have q2 := cell_regrown p2
      have c0 := HS.out.cell (i := 1) rfl (o := 1) rfl
      have d0 := HS.out.cell (i := 0) rfl (o := 1) rfl
      have a0 := cell_regrown c0
      have a1 := cell_regrown d0
      have hyes := Lib.hid (take_same hlt hlt2 HD.out)
      have hno := Lib.hid (take_diff hlt hlt2)
      generalize ns[k] = x at *
      generalize ms[k] = y at *
      obtain ⟨v, lo, hi⟩ := x
      obtain ⟨v', lo', hi'⟩ := y
      dsimp only at *
      clear m0 m1 m2 p0 p1 p2
      have hst := nd_held
      have hgu := nd_guard
      by_cases e : (⟨v, lo, hi⟩ : Nd) = ⟨v', lo', hi'⟩
      · have hD := Lib.hid (hyes.out e)
        cases e
        clear hyes hno HD hlt
        go_wp2_with fail
        refine wp_region_quiet_below (by kernel_rfl) (by kernel_rfl) ?_
        repeat (any_goals (go_big_quiet_step (fail)))
        refine wpQuiet_nil ?_
        rintro w3 ⟨p, rfl⟩
        have HS4 := Lib.hid (HS.out.grow (below_regrown _ p.d p.os))
        clear HS k0 k1 k2 q0 q1 q2
        go_wp2_with fail
        go_roundw
        case rel => exact ⟨k + 1, by omega, by go_num, hD, HS4⟩
        case measure => simp [intOf]; omega
      · have hR : Hid (decide (ns = ms) = false) := by unfold Hid; simp [hno.out e]
        have hcase := nd_split e
        clear hyes hno HD e hlt
        rcases hcase with hne | ⟨rfl, hne⟩ | ⟨rfl, rfl, hne⟩
        all_goals
          go_wp2_with fail
          refine wp_region_quiet_below (by kernel_rfl) (by kernel_rfl) ?_
          repeat (any_goals (go_big_quiet_step (fail)))
          refine wpQuiet_nil ?_
          rintro w3 ⟨p, rfl⟩
          have HS4 := Lib.hid (HS.out.grow (below_regrown _ p.d p.os))
          clear HS k0 k1 k2 q0 q1 q2
          go_wp2_with fail
          go_ret
          exact ⟨ret_bool hR.out.symm, HS4.out.below⟩
    · obtain rfl : k = ms.length := by omega
      have he : ns = ms := by
        have := HD.out
        rw [List.take_length, ← hl3.out, List.take_length] at this
        exact this
      have hR : Hid (decide (ns = ms) = true) := by unfold Hid; simp [he]
      have hB := HS.out.below
      have c0 := HS.out.cell (i := 1) rfl (o := 1) rfl
      clear HD he HS
      go_wp2_with fail
      go_ret
      exact ⟨ret_bool hR.out.symm, hB⟩

set_option maxRecDepth 100000 in
set_option maxHeartbeats 4000000 in
theorem vDiagramF_any (r r' : Int) (A A' : Option Addr) (c c' : Nat) (ns ms : List Nd) (w : World) (hx : NdAt w A ns) (hy : NdAt w A' ms) (hl : ns.length ≤ 1000000) (hl' : ms.length ≤ 1000000) :
    Calls Try.prog 11 #[dgV r (.slice A ns.length c), dgV r' (.slice A' ms.length c')] w fun e w' => e = .returned (.bool (decide (r = r' ∧ ns = ms))) ∧ Below w.heap.size w w' := by
  have S0 := ((Sp.start w).alloc_box #[.int .i64 r, .slice A ns.length c] 34).alloc_box #[.int .i64 r', .slice A' ms.length c'] 34
  simp only [World.size_alloc] at S0
  replace S0 := Lib.hid S0
  have hN := Lib.hid hx
  have hM := Lib.hid hy
  rw [← same_and]
  clear hx hy
  by_cases e : r = r'
  case neg =>
    have hR : Hid ((decide (r = r') && decide (ns = ms)) = false) := by unfold Hid; simp [e]
    have hB := S0.out.below
    clear S0
    go_enter Try.func11, Try.ntmps11
    go_wp2_with fail
    go_ret
    exact ⟨ret_bool hR.out.symm, hB⟩
  have hR0 : Hid ((decide (r = r') && decide (ns = ms)) = decide (ns = ms)) := by unfold Hid; simp [e]
  subst e
  rw [hR0.out]
  clear hR0
  by_cases hl3 : ns.length = ms.length
  case neg =>
    have hR : Hid (decide (ns = ms) = false) := by unfold Hid; exact decide_eq_false fun h => hl3 (by rw [h])
    have hl4 : ¬ (ns.length : Int) = ms.length := by omega
    have hB := S0.out.below
    clear S0
    go_enter Try.func11, Try.ntmps11
    go_wp2_with fail
    go_ret
    exact ⟨ret_bool hR.out.symm, hB⟩
  rw [hl3] at S0 ⊢
  replace hl3 := Lib.hid hl3
  go_enter Try.func11, Try.ntmps11
  go_wp2_with fail
  go_loopw [5] (fun i wr => ∃ k : Nat, k ≤ ms.length ∧ i = .int .i64 k ∧ Hid (ns.take k = ms.take k) ∧ Hid (Sp w wr [Box (w.heap.size + 1) 34 #[.int .i64 r, .slice A' ms.length c'], Box w.heap.size 34 #[.int .i64 r, .slice A ms.length c]])) (fun i _ => ms.length - (intOf i).toNat)
  case atStart => exact ⟨0, Nat.zero_le _, rfl, rfl, S0⟩
  case round =>
    obtain ⟨k, hk, rfl, HD, HS⟩ := hrel
    clear S0
    by_cases hlt2 : k < ms.length
    · have hlt : k < ns.length := by have := hl3.out; omega
      obtain ⟨b, off, rfl, m0, m1, m2⟩ := (hN.out.grow HS.out.below).at_ k hlt
      obtain ⟨b', off', rfl, p0, p1, p2⟩ := (hM.out.grow HS.out.below).at_ k hlt2
      have k0 := cell_regrown m0
      have k1 := cell_regrown m1
      have k2 := cell_regrown m2
      have q0 := cell_regrown p0
      have q1 := cell_regrown p1
      have q2 := cell_regrown p2
      have c0 := HS.out.cell (i := 1) rfl (o := 1) rfl
      have d0 := HS.out.cell (i := 0) rfl (o := 1) rfl
      have a0 := cell_regrown c0
      have a1 := cell_regrown d0
      have hyes := Lib.hid (take_same hlt hlt2 HD.out)
      have hno := Lib.hid (take_diff hlt hlt2)
      generalize ns[k] = x at *
      generalize ms[k] = y at *
      obtain ⟨v, lo, hi⟩ := x
      obtain ⟨v', lo', hi'⟩ := y
      dsimp only at *
      clear m0 m1 m2 p0 p1 p2
      have hst := nd_held
      have hgu := nd_guard
      by_cases e : (⟨v, lo, hi⟩ : Nd) = ⟨v', lo', hi'⟩
      · have hD := Lib.hid (hyes.out e)
        cases e
        clear hyes hno HD hlt
        go_wp2_with fail
        refine wp_region_quiet_below (by kernel_rfl) (by kernel_rfl) ?_
        repeat (any_goals (go_big_quiet_step (fail)))
        refine wpQuiet_nil ?_
        rintro w3 ⟨p, rfl⟩
        have HS4 := Lib.hid (HS.out.grow (below_regrown _ p.d p.os))
        clear HS k0 k1 k2 q0 q1 q2
        go_wp2_with fail
        go_roundw
        case rel => exact ⟨k + 1, by omega, by go_num, hD, HS4⟩
        case measure => simp [intOf]; omega
      · have hR : Hid (decide (ns = ms) = false) := by unfold Hid; simp [hno.out e]
        have hcase := nd_split e
        clear hyes hno HD e hlt
        rcases hcase with hne | ⟨rfl, hne⟩ | ⟨rfl, rfl, hne⟩
        all_goals
          go_wp2_with fail
          refine wp_region_quiet_below (by kernel_rfl) (by kernel_rfl) ?_
          repeat (any_goals (go_big_quiet_step (fail)))
          refine wpQuiet_nil ?_
          rintro w3 ⟨p, rfl⟩
          have HS4 := Lib.hid (HS.out.grow (below_regrown _ p.d p.os))
          clear HS k0 k1 k2 q0 q1 q2
          go_wp2_with fail
          go_ret
          exact ⟨ret_bool hR.out.symm, HS4.out.below⟩
    · obtain rfl : k = ms.length := by omega
      have he : ns = ms := by
        have := HD.out
        rw [List.take_length, ← hl3.out, List.take_length] at this
        exact this
      have hR : Hid (decide (ns = ms) = true) := by unfold Hid; simp [he]
      have hB := HS.out.below
      have c0 := HS.out.cell (i := 1) rfl (o := 1) rfl
      clear HD he HS
      go_wp2_with fail
      go_ret
      exact ⟨ret_bool hR.out.symm, hB⟩

end Go.Proofs.Ytbemodacpimiiaa

/- A part of the memory brought to the front. No program in sight. -/
namespace Go.Proofs.Ytbemodacpimiiaa
open Go.RowKit

theorem sep_bring {w : World} : ∀ {ps : List Asn} {F : List Nat} {i : Nat} {q : Asn}, sep ps w F → ps[i]? = some q → ∃ F', sep (q :: ps.eraseIdx i) w F' ∧ ∀ b ∈ F', b ∈ F
  | [], _, _, _, _, h => by simp at h
  | p :: ps, F, 0, q, h, hi => by
    simp at hi; subst hi
    exact ⟨F, h, fun _ h => h⟩
  | p :: ps, _, i + 1, q, h, hi => by
    obtain ⟨F1, F2, rfl, hd, h1, h2⟩ := h
    obtain ⟨F', ⟨F3, F4, rfl, hd', h3, h4⟩, hs⟩ := sep_bring (i := i) h2 (by simpa using hi)
    refine ⟨F3 ++ (F1 ++ F4), ⟨F3, F1 ++ F4, rfl, fun b hb hb2 => ?_, h3, F1, F4, rfl, fun b hb hb2 => hd b hb (hs b (List.mem_append.2 (.inr hb2))), h1, h4⟩, fun b hb => ?_⟩
    · rcases List.mem_append.1 hb2 with h | h
      · exact hd b h (hs b (List.mem_append.2 (.inl hb)))
      · exact hd' b hb h
    · simp only [List.mem_append] at hb ⊢
      rcases hb with h | h | h
      · exact .inr (hs b (List.mem_append.2 (.inl h)))
      · exact .inl h
      · exact .inr (hs b (List.mem_append.2 (.inr h)))
section
variable {w0 w w' : World} {ps : List Asn} {i j : Nat} {q : Asn}
/-- A part is brought to the front. -/
theorem Sp.bring (h : Sp w0 w ps) (hi : ps[i]? = some q) : Sp w0 w (q :: ps.eraseIdx i) := by
  obtain ⟨h1, F, h2, h3⟩ := h
  obtain ⟨F', h4, h5⟩ := sep_bring h2 hi
  exact ⟨h1, F', h4, fun b hb => h3 b (h5 b hb)⟩
end
/-- Parts are picked, by their places in what is left. -/
def pickQ : List Nat → List Asn → Option (List Asn)
  | [], _ => some []
  | i :: is, ps => match ps[i]? with
    | none => none
    | some q => match pickQ is (ps.eraseIdx i) with
      | none => none
      | some qs => some (q :: qs)
theorem sep_pick {w : World} : ∀ {is : List Nat} {ps qs : List Asn} {F : List Nat}, sep ps w F → pickQ is ps = some qs → ∃ F', sep qs w F' ∧ ∀ b ∈ F', b ∈ F
  | [], _, _, _, _, hq => by
    simp only [pickQ, Option.some.injEq] at hq
    subst hq
    exact ⟨[], rfl, by simp⟩
  | i :: is, ps, qs, F, h, hq => by
    unfold pickQ at hq
    cases hi : ps[i]? with
    | none => rw [hi] at hq; cases hq
    | some q =>
      rw [hi] at hq
      simp only at hq
      cases hr : pickQ is (ps.eraseIdx i) with
      | none => rw [hr] at hq; cases hq
      | some rs =>
        rw [hr] at hq
        simp only [Option.some.injEq] at hq
        subst hq
        obtain ⟨F1, ⟨F2, F3, rfl, hd, h1, h2⟩, hs⟩ := sep_bring h hi
        obtain ⟨F4, h3, h4⟩ := sep_pick h2 hr
        exact ⟨F2 ++ F4, ⟨F2, F4, rfl, fun b hb hb4 => hd b hb (h4 b hb4), h1, h3⟩, fun b hb => by
          rcases List.mem_append.1 hb with hb | hb
          · exact hs b (List.mem_append.2 (.inl hb))
          · exact hs b (List.mem_append.2 (.inr (h4 b hb)))⟩
theorem Sp.pick {w0 w : World} {ps qs : List Asn} (is : List Nat) (h : Sp w0 w ps) (hq : pickQ is ps = some qs) : Sp w0 w qs := by
  obtain ⟨h1, F, h2, h3⟩ := h
  obtain ⟨F', h4, h5⟩ := sep_pick h2 hq
  exact ⟨h1, F', h4, fun b hb => h3 b (h5 b hb)⟩
end Go.Proofs.Ytbemodacpimiiaa

/- Memory: own rows of diagrams, whose nodes are only read. -/
namespace Go.Proofs.Ytbemodacpimiiaa
open Go.RowKit

/-- A diagram with the value of its nodes. -/
structure Dk where
  r : Int
  v : Value
  ns : List Nd
abbrev Dk.d (k : Dk) : Int × List Nd := (k.r, k.ns)
def dkEnc (d : Dk) : List Value := [.int .i64 d.r, d.v]
def NdOf (w : World) (d : Dk) : Prop := ∃ A c, d.v = .slice A d.ns.length c ∧ NdAt w A d.ns
/-- Nodes that are only read, with all that they reach. -/
def NdPool (K : List Dk) : Asn where
  p w F := (∀ b ∈ F, b < w.heap.size) ∧ ∀ q ∈ K, ∃ A c, q.v = .slice A q.ns.length c ∧ NdAt w A q.ns ∧ (q.ns ≠ [] → ∀ a, A = some a → a.block ∈ F)
  lt h := h.1
  keep := by
    rintro w w' F ⟨h1, h2⟩ hk
    refine ⟨fun b hb => ?_, fun q hq => ?_⟩
    · have := hk b hb
      rw [Array.getElem?_eq_getElem (h1 b hb)] at this
      exact (Array.getElem?_eq_some_iff.1 this).1
    · obtain ⟨A, c, e, h3, h4⟩ := h2 q hq
      refine ⟨A, c, e, ?_, h4⟩
      by_cases hn : q.ns = []
      · rw [hn]; exact ⟨fun j hj => absurd hj (by simp), by simp⟩
      · exact h3.keep fun a ha => hk _ (h4 hn a ha)
theorem NdAt.lt {w : World} {A : Option Addr} {ns : List Nd} (h : NdAt w A ns) (hn : ns ≠ []) : ∃ a, A = some a ∧ a.block < w.heap.size := by
  obtain ⟨b, off, e, h1, -⟩ := h.at_ 0 (List.length_pos_iff.2 hn)
  exact ⟨_, e, World.block_lt_of_cell? _ _ h1⟩
section
variable {w0 w w' : World} {ps : List Asn} {i : Nat} {K K' : List Dk} {v : Value} {ns : List Nd} {d : Dk}
theorem Sp.ndpool_nil (h : Sp w0 w ps) : Sp w0 w (NdPool [] :: ps) := h.new (F := []) (bb _) ⟨by simp, by simp⟩ (by simp)
theorem Sp.ndpool_at (h : Sp w0 w ps) (hi : ps[i]? = some (NdPool K)) : ∀ q ∈ K, NdOf w q := fun q hq => by
  obtain ⟨F, hp, _⟩ := h.get hi
  obtain ⟨A, c, e, h1, -⟩ := hp.2 q hq
  exact ⟨A, c, e, h1⟩
theorem Sp.ndpool_add (h : Sp w0 w ps) (hi : ps[i]? = some (NdPool K)) (hp : DgPost w d.ns d.v w') (hK : ∀ q ∈ K', q = d ∨ q ∈ K) : Sp w0 w' (ps.set i (NdPool K')) := by
  obtain ⟨Fi, ⟨hp1, hp2⟩, hF, hall⟩ := h.upd hi
  obtain ⟨A, c, e, hN, hA, hb⟩ := hp
  have hsz := hb.size
  by_cases hn : d.ns = []
  · refine hall w' _ Fi (.of_below hb) ⟨fun b hm => Nat.lt_of_lt_of_le (hp1 b hm) hsz, fun q hq => ?_⟩ fun b hm => .inl hm
    rcases hK q hq with rfl | hq
    · exact ⟨A, c, e, hN, fun h => absurd hn h⟩
    · obtain ⟨A', c', e', h3, h4⟩ := hp2 q hq
      exact ⟨A', c', e', h3.grow hb, h4⟩
  · obtain ⟨a, rfl, hlt⟩ := hN.lt hn
    refine hall w' _ (a.block :: Fi) (.of_below hb) ⟨fun b hm => ?_, fun q hq => ?_⟩ fun b hm => ?_
    · rcases List.mem_cons.1 hm with rfl | hm
      · exact hlt
      · exact Nat.lt_of_lt_of_le (hp1 b hm) hsz
    · rcases hK q hq with rfl | hq
      · exact ⟨_, c, e, hN, fun _ a' ha => by cases ha; simp⟩
      · obtain ⟨A', c', e', h3, h4⟩ := hp2 q hq
        exact ⟨A', c', e', h3.grow hb, fun hn a' ha => List.mem_cons_of_mem _ (h4 hn a' ha)⟩
    · rcases List.mem_cons.1 hm with rfl | hm
      · exact .inr (hA a rfl)
      · exact .inl hm
end
/-- A row of diagrams can be read. -/
structure DgsAt (w : World) (A : Option Addr) (ds : List (Int × List Nd)) : Prop where
  at_ : ∀ j (hj : j < ds.length), ∃ b off B c, A = some ⟨b, off, none⟩ ∧ w.cell? ⟨b, off + j * 2, none⟩ = some (.int .i64 ds[j].1) ∧ w.cell? ⟨b, off + j * 2 + 1, none⟩ = some (.slice B ds[j].2.length c) ∧ NdAt w B ds[j].2
theorem DgsAt.grow {w w' : World} {A : Option Addr} {ds : List (Int × List Nd)} (h : DgsAt w A ds) (hb : Below w.heap.size w w') : DgsAt w' A ds := ⟨fun j hj => by
  obtain ⟨b, off, B, c, e, h1, h2, h3⟩ := h.at_ j hj
  have hlt := World.block_lt_of_cell? _ _ h1
  exact ⟨b, off, B, c, e, ((bcell hb).1 _ _ hlt).trans h1, ((bcell hb).1 _ _ hlt).trans h2, h3.grow hb⟩⟩
theorem DgsAt.nil (w : World) (A : Option Addr) : DgsAt w A [] := ⟨fun j hj => absurd hj (by simp)⟩
theorem dgs_own {w : World} {B : Nat} {e : TypeId} {v : Value} {ks : List Dk} (h : w.ownsRow B e 2 v ks.length (ks.flatMap dkEnc)) (hok : ∀ x ∈ ks, NdOf w x) : ∃ A c, v = .slice A ks.length c ∧ DgsAt w A (ks.map Dk.d) := by
  obtain ⟨_, ⟨rfl, h0⟩ | ⟨g, cap, cur, rfl, _, hh, _, _, hs, ht⟩⟩ := h
  · have : ks = [] := List.length_eq_zero_iff.1 h0
    subst this
    exact ⟨none, 0, rfl, DgsAt.nil _ _⟩
  · refine ⟨_, cap, rfl, ⟨fun j hj => ?_⟩⟩
    have hj2 : j < ks.length := by simpa using hj
    obtain ⟨A, c, e2, hN⟩ := hok ks[j] (List.getElem_mem hj2)
    have key : ∀ i u, i < 2 → (dkEnc ks[j])[i]? = some u → w.cell? ⟨g, 0 + j * 2 + i, none⟩ = some u := fun i u hi hu => by
      have := Nat.mul_le_mul_right 2 (show j + 1 ≤ ks.length by omega)
      rw [Nat.zero_add, hown_cell hh ht (by omega), flat_get (enc := dkEnc) (n := 2) (fun _ => rfl) ks j hj2 i hi, hu]
    refine ⟨g, 0, A, c, rfl, ?_, ?_, ?_⟩
    · have := key 0 _ (by decide) rfl
      simpa using this
    · have := key 1 _ (by decide) rfl
      rw [e2] at this
      simpa using this
    · simpa using hN
theorem Src.pair {w : World} {b : Nat} {x y : Value} (h0 : w.cell? ⟨b, 0, none⟩ = some x) (h1 : w.cell? ⟨b, 1, none⟩ = some y) : Src w (some ⟨b, 0, none⟩) 1 2 [x, y] :=
  .inr ⟨_, rfl, rfl, fun j u hj => by
    match j, hj with
    | 0, hj => simp at hj; subst hj; rw [add_none]; exact h0
    | 1, hj => simp at hj; subst hj; rw [add_none]; exact h1⟩
theorem infoDg : (Try.prog.info? 34).map (fun i => (i.zero, i.size, i.bytes)) = some (some (.agg #[.int .i64 0, .slice none 0 0]), 2, 32) := by kernel_rfl
/-- What a list of diagrams is while it is made: an own row, its nodes beside it. -/
abbrev DList (v : Value) (ks : List Dk) : List Asn := [Own 34 2 v ks.length (ks.flatMap dkEnc), NdPool ks]
theorem dk_flat (ks : List Dk) (d : Dk) : (ks ++ [d]).flatMap dkEnc = ks.flatMap dkEnc ++ dkEnc d := by simp
/-- The trace of a Cnf, told. -/
def trT (n : Nat) (xss : List (List Int)) (i : Nat) : Int × List Nd := (dgR n (modT (xss.take (i + 1))), dgN n (modT (xss.take (i + 1))))
def trL (n : Nat) (xss : List (List Int)) (k : Nat) : List (Int × List Nd) := (List.range k).map (trT n xss)
theorem trL_succ (n : Nat) (xss : List (List Int)) (k : Nat) : trL n xss (k + 1) = trL n xss k ++ [trT n xss k] := by simp [trL, List.range_succ]
theorem trL_len (n : Nat) (xss : List (List Int)) (k : Nat) : (trL n xss k).length = k := by simp [trL]
theorem trL_get {n : Nat} {xss : List (List Int)} {k j : Nat} (h : j < (trL n xss k).length) : (trL n xss k)[j] = trT n xss j := by simp [trL]
end Go.Proofs.Ytbemodacpimiiaa

/- Contracts: a diagram with a literal set, a diagram that forgets a variable, the count, in the program. -/
namespace Go.Proofs.Ytbemodacpimiiaa
open Go.RowKit

theorem isVar_b (vars l : Int) (w : World) : Calls Try.prog 194 #[.int .i64 vars, .int .i64 l] w fun e w' => e = .returned (.bool (inB l 1 vars)) ∧ Below w.heap.size w w' :=
  (isVar_any vars l w).mono fun e w' ⟨h1, h2⟩ => ⟨h1, h2 ▸ bb _⟩

/- left out: the seat has no impl.SetInDiagram -/

/- left out: the seat has no impl.ForgetInDiagram -/
end Go.Proofs.Ytbemodacpimiiaa
