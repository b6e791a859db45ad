/- Lemmas and contracts for a law, put together out of several texts: CtA CtB RsA SdA OwnS SdC SdD SdE SdF SdG SdH SdI CurR SdJ SdK SdL MdQ AsC AsD TcA MdK MdS PnC AsE CtC CtD CtE. -/
import Derived.Test.YteabiokhbaekpaaMg4
import Derived.Laws.EntriesVeiled
import Derived.Test.YteabiokhbaekpaaMg1
import Derived.Lib.Hide
import Derived.Deep.QuietTactic
import Derived.BigQuiet
import Derived.Lib.QuietBelow
import Derived.Test.YteabiokhbaekpaaShelf
import Derived.Sort.OwnSortedInts
import Derived.Test.YteabiokhbaekpaaMg3
import Derived.Test.YteabiokhbaekpaaMg2
import Derived.Shelf.Spec.SlicesGrow
import Derived.Laws.BitsLemmas
/- Contract: the recursive closure that lists ascending lists, at every depth, where it stops at the limit. -/
namespace Go.Proofs.Yteabiokhbaekpaa
open Go.RowKit

/-- What comes until the limit is passed. -/
def capL {α : Type} (lim : Nat) (X : List α) : List α := X.take (lim + 1)
theorem capL_len {α : Type} {lim : Nat} (X : List α) : (capL lim X).length ≤ lim + 1 := by unfold capL; rw [List.length_take]; omega
theorem capL_all {α : Type} {lim : Nat} {X : List α} (h : X.length ≤ lim + 1) : capL lim X = X := List.take_of_length_le h
theorem capL_over {α : Type} {lim : Nat} {X : List α} (h : lim < (capL lim X).length) (Y : List α) : capL lim (X ++ Y) = capL lim X := by
  unfold capL at *; rw [List.length_take] at h; exact List.take_append_of_le_length (by omega)
theorem capL_step {α : Type} {lim : Nat} (X Y : List α) : capL lim (capL lim X ++ Y) = capL lim (X ++ Y) := by
  unfold capL
  rw [List.take_append, List.take_append, List.take_take, Nat.min_self, List.length_take]
  by_cases h : X.length ≤ lim + 1
  · rw [show min (lim + 1) X.length = X.length by omega]
  · rw [show lim + 1 - min (lim + 1) X.length = 0 by omega, show lim + 1 - X.length = 0 by omega]
theorem capL_mem {α : Type} {lim : Nat} {X : List α} {x : α} (h : x ∈ capL lim X) : x ∈ X := List.mem_of_mem_take h

set_option maxRecDepth 100000 in
set_option maxHeartbeats 8000000 in
theorem grow_full (n many lim po pl pm pn pg : Nat) (k a : Nat) (D : Option Addr) (dc : Nat) (us : List Value) (B : Option Addr) (c : Nat) (cs : List Value) (LI : List (List Int)) (w0 W : World) (ps : List Asn) (hL : lim < LI.length)
    (S : Sp w0 W (Own 3 1 (.slice D k dc) k us :: GB po pl pm pn pg B c cs LI n many lim ps)) :
    Calls Try.prog 37 #[.slice D k dc, .int .i64 a, .pointer (some ⟨po, 0, none⟩), .pointer (some ⟨pl, 0, none⟩), .pointer (some ⟨pm, 0, none⟩), .pointer (some ⟨pn, 0, none⟩), .pointer (some ⟨pg, 0, none⟩)] W fun e w' => e = .returned (.tuple #[]) ∧ Sp w0 w' (Own 3 1 (.slice D k dc) k us :: GB po pl pm pn pg B c cs LI n many lim ps) := by
  have c0 := S.cell (i := 2) rfl (o := 0) rfl
  have c1 := S.cell (i := 3) rfl (o := 0) rfl
  have d0 : decide ((lim : Int) < (LI.length : Int)) = true := decide_eq_true (by omega)
  replace S := Lib.hid S
  go_enter Try.func37, Try.ntmps37
  go_wp2_with fail
  (try rw [decide_eq_true (show lim < LI.length by omega)])
  go_wp2_with fail
  exact bodyPost_ret (v := .tuple #[]) (by simp [results, Try.results37, go_sem]) rfl ⟨rfl, S.out⟩

set_option maxRecDepth 100000 in
set_option maxHeartbeats 16000000 in
theorem growC_any (n many lim po pl pm pn pg : Nat) (hn : n ≤ 100) (hmm : many ≤ 1000) (hlim : lim ≤ 100000) : ∀ (d : Nat) (xs : List Nat) (a : Nat) (D : Option Addr) (dc : Nat) (B : Option Addr) (c : Nat) (cs : List Value) (LI : List (List Int)) (w0 W : World) (ps : List Asn), xs.length + d = many → (xs = [] → D = none) → a ≤ n + 1 → AscN (n + 1) xs → nextA xs ≤ a → LI.length ≤ lim + 1 →
    Sp w0 W (Own 3 1 (.slice D xs.length dc) xs.length ((ofN xs).map (.int .i64)) :: GB po pl pm pn pg B c cs LI n many lim ps) →
    Calls Try.prog 37 #[.slice D xs.length dc, .int .i64 a, .pointer (some ⟨po, 0, none⟩), .pointer (some ⟨pl, 0, none⟩), .pointer (some ⟨pm, 0, none⟩), .pointer (some ⟨pn, 0, none⟩), .pointer (some ⟨pg, 0, none⟩)] W fun e w' => e = .returned (.tuple #[]) ∧
      ∃ B' c' cs', Sp w0 w' (Own 3 1 (.slice D xs.length dc) xs.length ((ofN xs).map (.int .i64)) :: GB po pl pm pn pg B' c' cs' (capL lim (LI ++ goL (n + 1) xs d a)) n many lim ps) := by
  have eg : Enter1 37 := enters_of Try.func37 (by kernel_rfl) rfl
  unfold Enter1 at eg
  obtain ⟨i0, hi, hz0, hz1, hz2⟩ := info_parts infoInt
  intro d
  induction d with
  | zero =>
    intro xs a D dc B c cs LI w0 W ps hm hD ha has hna hL S
    rw [goL_zero]
    by_cases hf : lim < LI.length
    · have e1 : capL lim (LI ++ [ofN xs]) = LI := by
        rw [capL_over (X := LI) (by rw [capL_all hL]; exact hf), capL_all hL]
      rw [e1]
      refine (grow_full n many lim po pl pm pn pg xs.length a D dc _ B c cs LI w0 W ps hf S).mono ?_
      rintro e w1 ⟨rfl, S1⟩
      exact ⟨rfl, B, c, cs, S1⟩
    · rw [capL_all (X := LI ++ [ofN xs]) (by simp; omega)]
      exact grow_zero n many lim po pl pm pn pg hlim xs a D dc B c cs LI w0 W ps hm hmm hD (ofN_ok (m := n + 1) (by omega) has) (by omega) S
  | succ d ih =>
    intro xs a D dc B c cs LI w0 W ps hm hD ha has hna hL S
    by_cases hf : lim < LI.length
    · have e1 : capL lim (LI ++ goL (n + 1) xs (d + 1) a) = LI := by
        rw [capL_over (X := LI) (by rw [capL_all hL]; exact hf), capL_all hL]
      rw [e1]
      refine (grow_full n many lim po pl pm pn pg xs.length a D dc _ B c cs LI w0 W ps hf S).mono ?_
      rintro e w1 ⟨rfl, S1⟩
      exact ⟨rfl, B, c, cs, S1⟩
    have hall := Lib.hid (soL_all (n + 1) xs d a)
    have hst : Hid (capL lim (LI ++ soL (n + 1) xs d a a) = LI) := by
      unfold Hid; rw [soL_start, List.append_nil, capL_all hL]
    have hnx := Lib.hid (fun v (h : a ≤ v) => show capL lim (LI ++ soL (n + 1) xs d a (v + 1)) = capL lim (capL lim (LI ++ soL (n + 1) xs d a v) ++ goL (n + 1) (xs ++ [v]) d (v + 1)) by
      rw [soL_next (M := n + 1) (xs := xs) (d := d) h, capL_step, List.append_assoc])
    rw [soL_all]
    have hasn := Lib.hid (fun v (h : a ≤ v) (h2 : v < n + 1) => asc_snoc has (Nat.le_trans hna h) h2)
    have hih := Lib.hid (fun v (h : a ≤ v) (h2 : v < n + 1) D2 dc2 B2 c2 cs2 LI2 W2 ps2 (hL2 : LI2.length ≤ lim + 1) S2 => ih (xs ++ [v]) (v + 1) D2 dc2 B2 c2 cs2 LI2 w0 W2 ps2 (by simp; omega) (fun h => by simp at h) (by omega) (asc_snoc has (Nat.le_trans hna h) h2) (by rw [nextA_snoc]; omega) hL2 S2)
    have hsl : ∀ v : Nat, (xs ++ [v]).length = xs.length + 1 := by simp
    have hsv : ∀ v : Nat, (ofN (xs ++ [v])).map (Value.int .i64) = (ofN xs).map (.int .i64) ++ [.int .i64 (v : Int)] := by intro v; unfold ofN; simp
    simp only [hsl, hsv] at hih
    have hxl := asc_len has
    have hxm : xs.length < many := by omega
    have hln : ((ofN xs).map (Value.int .i64)).length = xs.length := by simp [ofN]
    obtain ⟨us, hus⟩ : ∃ us, (ofN xs).map (Value.int .i64) = us := ⟨_, rfl⟩
    simp only [hus] at hih S hln ⊢
    obtain ⟨xl, hxle⟩ : ∃ xl, xs.length = xl := ⟨_, rfl⟩
    simp only [hxle] at hih S hln hxl hxm ⊢
    clear ih hm hD has hna hsl hsv hus hxle
    replace hln := Lib.hid hln
    have c0 := S.cell (i := 2) rfl (o := 0) rfl
    have c1 := S.cell (i := 3) rfl (o := 0) rfl
    have c2 := S.cell (i := 4) rfl (o := 0) rfl
    have d0 : decide ((lim : Int) < (LI.length : Int)) = false := decide_eq_false (by omega)
    have d1 : ((xl : Int) == (many : Int)) = false := beq_eq_false_iff_ne.2 (by omega)
    have d2 : decide ((xl : Int) = (many : Int)) = false := decide_eq_false (by omega)
    have hL1 : LI.length ≤ lim := by omega
    clear hL
    have S0 : Hid (Sp w0 W (Own 3 1 (.slice D xl dc) xl us :: GB po pl pm pn pg B c cs (capL lim (LI ++ soL (n + 1) xs d a a)) n many lim ps)) := by
      unfold Hid; rw [hst.out]; exact S
    clear S
    go_enter Try.func37, Try.ntmps37
    go_wp2_with fail
    (try rw [decide_eq_false (show ¬ lim < LI.length by omega)])
    clear c0 c1 c2 d0
    go_loopw [9] (fun vi wr => ∃ (v : Nat) (B : Option Addr) (c : Nat) (cs : List Value), a ≤ v ∧ v ≤ n + 1 ∧ vi = .int .i64 v ∧ Hid (Sp w0 wr (Own 3 1 (.slice D xl dc) xl us :: GB po pl pm pn pg B c cs (capL lim (LI ++ soL (n + 1) xs d a v)) n many lim ps))) (fun vi _ => n + 1 - (intOf vi).toNat)
    case atStart => exact ⟨a, B, c, cs, Nat.le_refl _, ha, rfl, S0⟩
    case round =>
      obtain ⟨v, B, c, cs, hav, hvn, rfl, HS⟩ := hrel
      clear S0
      have c0 := HS.out.cell (i := 5) rfl (o := 0) rfl
      by_cases hlt : v ≤ n
      · have d3 : decide ((v : Int) ≤ (n : Int)) = true := decide_eq_true (by omega)
        have hw1 : IntKind.i64.wrap ((v : Int) + 1) = ((v + 1 : Nat) : Int) := by rw [IntWalk.i64_in _ (by omega)]; rfl
        have hnv := Lib.hid (hnx.out v hav)
        have hcall := Lib.hid (fun D2 dc2 W2 ps2 S2 => hih.out v hav (by omega) D2 dc2 B c cs (capL lim (LI ++ soL (n + 1) xs d a v)) W2 ps2 (capL_len _) S2)
        have g0 := HS.out.cell (i := 6) rfl (o := 0) rfl
        have S1 := Lib.hid HS.out.drew
        generalize hso : capL lim (LI ++ soL (n + 1) xs d a v) = SV at *
        generalize hso2 : capL lim (LI ++ soL (n + 1) xs d a (v + 1)) = SV2 at *
        generalize goL (n + 1) (xs ++ [v]) d (v + 1) = GV at *
        replace hso2 := Lib.hid hso2
        clear hso
        go_wp2_with fail
        refine wp_region_held_lit (S := (fun w' => w'.cell? ⟨pg, 0, none⟩ = some (.func (.func 37) #[] #[.pointer (some ⟨po, 0, none⟩), .pointer (some ⟨pl, 0, none⟩), .pointer (some ⟨pm, 0, none⟩), .pointer (some ⟨pn, 0, none⟩), .pointer (some ⟨pg, 0, none⟩)]))) 8 [false, false, false, false, false, false, false, false] (by kernel_rfl) (by kernel_rfl) (by kernel_rfl) ?_ ?_
        · exact g0
        intro hSc
        (refine wpAnyH_take (i := 0) (v := ?_) rfl (by kernel_rfl) (by kernel_rfl) (by kernel_rfl) (fun _ _ _ h => h) (Or.inl ⟨by rfl, ?_⟩) (by assumption) ?_; rotate_left; (focus (intro w hSw; (try dsimp only at hSw); go_simp; (try with_reducible rfl); done)); (try simp only [put_rules]))
        (refine wpAnyH_take (i := 1) (v := ?_) rfl (by kernel_rfl) (by kernel_rfl) (by kernel_rfl) (fun _ _ _ h => h) (Or.inl ⟨by rfl, ?_⟩) (by assumption) ?_; rotate_left; (focus (intro w hSw; (try dsimp only at hSw); go_simp; (try with_reducible rfl); done)); (try simp only [put_rules]))
        (refine wpAnyH_take (i := 2) (v := ?_) rfl (by kernel_rfl) (by kernel_rfl) (by kernel_rfl) (fun _ _ _ h => h) (Or.inl ⟨by rfl, ?_⟩) (by assumption) ?_; rotate_left; (focus (intro w hSw; (try dsimp only at hSw); go_simp; (try with_reducible rfl); done)); (try simp only [put_rules]))
        (refine wpAnyH_take (i := 5) (v := ?_) rfl (by kernel_rfl) (by kernel_rfl) (by kernel_rfl) (fun _ _ _ h => h) (Or.inl ⟨by rfl, ?_⟩) (by assumption) ?_; rotate_left; (focus (intro w hSw; (try dsimp only at hSw); go_simp; (try with_reducible rfl); done)); (try simp only [put_rules]))
        (refine wpAnyH_take (i := 6) (v := ?_) rfl (by kernel_rfl) (by kernel_rfl) (by kernel_rfl) (fun _ _ _ h => h) (Or.inl ⟨by rfl, ?_⟩) (by assumption) ?_; rotate_left; (focus (intro w hSw; (try dsimp only at hSw); go_simp; (try with_reducible rfl); done)); (try simp only [put_rules]))
        (refine wpAnyH_ready (rs := [3]) (by kernel_rfl) (by simp) ?_; refine AllReadyH.cons rfl (fun K hK => ?_) AllReadyH.nil)
        go_simp
        have S2 := S1.out.alloc_box #[.int .i64 (v : Int)] 3
        have kB := S2.cell (i := 0) rfl (o := 0) rfl
        refine hK.out _ _ (S2.cell (i := 7) rfl (o := 0) rfl) (fun hS2 => ?_)
        replace S2 := Lib.hid S2
        clear hK hSc S1 HS c0 g0
        (try simp only [put_rules])
        (refine wpAnyH_ready (rs := [4]) (by kernel_rfl) (by simp) ?_; refine AllReadyH.cons rfl (fun K hK => ?_) AllReadyH.nil)
        (refine step_append_keep rfl _ _ rfl Try.underlying26 hi hz0 hz1 hz2 rfl (by decide) _ xl _ rfl (S2.out.own (i := 1) rfl) ⟨wr.heap.size, 0, none⟩ 1 1 [.int .i64 (v : Int)] rfl rfl (fun j u hj => by
          match j, hj with
          | 0, hj => simp at hj; subst hj; rw [add_none]; exact kB) (by simp [Value.oneCell']) (by unfold maxLen; omega) (by omega) (by decide) ?_; intro vA wA hownA hgA hatA)
        have hfin : ∃ (D2 : Option Addr) (dc2 : Nat), vA = .slice D2 (xl + 1) dc2 ∧ ∃ ps2, Sp w0 wA (Own 3 1 (.slice D2 (xl + 1) dc2) (xl + 1) (us ++ [.int .i64 (v : Int)]) :: GB po pl pm pn pg B c cs SV n many lim ps2) ∧
            ∀ wz B' c' cs' LI', Sp w0 wz (Own 3 1 (.slice D2 (xl + 1) dc2) (xl + 1) (us ++ [.int .i64 (v : Int)]) :: GB po pl pm pn pg B' c' cs' LI' n many lim ps2) → Sp w0 wz (Own 3 1 (.slice D xl dc) xl us :: GB po pl pm pn pg B' c' cs' LI' n many lim ps) := by
          rcases hatA with ⟨A2, cap2, e1, rfl⟩ | ⟨hnew, hbel⟩
          · cases e1
            refine ⟨D, dc, rfl, ps, ?_, fun wz B' c' cs' LI' h => ?_⟩
            · exact (S2.out.own_push (i := 1) rfl (bb _) hownA hgA (.inl (by cases D <;> simp [Value.ownBlock]))).tail
            · obtain ⟨g', cap', cur', e2, -⟩ := own_block (h.own (i := 0) rfl) (by omega)
              simp only [Value.slice.injEq] at e2
              obtain ⟨rfl, -, rfl⟩ := e2
              have h2 := h.own_cut (i := 0) (m := xl) rfl (by omega)
              rw [show (us ++ [Value.int .i64 (v : Int)]).take xl = us by rw [← hln.out]; exact List.take_left] at h2
              exact h2
          · obtain ⟨D2, dc2, rfl⟩ := own_slice hownA
            refine ⟨D2, dc2, rfl, Own 3 1 (.slice D xl dc) xl us :: ps, ?_, fun wz B' c' cs' LI' h => h.move_out⟩
            have h1 := S2.out.tail.own_new hbel hownA (fun g hg => by rw [hnew] at hg; cases hg; exact Nat.le_refl _)
            exact h1.move_in
        obtain ⟨D2, dc2, rfl, ps2, S3, hback⟩ := hfin
        have hc3 := hcall.out D2 dc2 wA ps2 S3
        rw [show ((v + 1 : Nat) : Int) = (v : Int) + 1 from rfl] at hc3
        replace hc3 := Lib.hid hc3
        refine hK.out _ _ (S3.cell (i := 6) rfl (o := 0) rfl) (fun hS3 => ?_)
        replace hback := Lib.hid hback
        clear hK hS2 S2 S3 hcall kB hownA hgA hatA
        (try simp only [put_rules])
        (refine wpAnyH_ready (rs := [7]) (by kernel_rfl) (by simp) ?_; refine AllReadyH.cons rfl (fun K hK => ?_) AllReadyH.nil)
        go_simp
        refine hc3.out.mono ?_
        rintro e w4 ⟨rfl, B', c', cs', S4⟩
        have S5 := hback.out _ _ _ _ _ S4
        rw [← hnv.out] at S5
        have g0 := S5.cell (i := 6) rfl (o := 0) rfl
        replace S5 := Lib.hid S5
        clear hc3 hback S4
        go_wp2_with fail
        refine hK.out _ _ g0 (fun hS4 => ?_)
        clear hK hS3 g0
        (try simp only [put_rules])
        (refine wpAnyH_done (by kernel_rfl) ?_ _)
        go_wp2_with fail
        go_roundw
        case rel => exact ⟨v + 1, B', c', cs', by omega, by omega, by go_num, by unfold Hid; rw [hso2.out]; exact S5.out⟩
        case measure => simp [intOf]; omega
      · obtain rfl : v = n + 1 := by omega
        have d3 : decide (((n + 1 : Nat) : Int) ≤ (n : Int)) = false := decide_eq_false (by omega)
        replace HS := Lib.hid HS.out
        go_wp2_with fail
        exact bodyPost_end (v := .tuple #[]) (by simp [results, Try.results37, go_sem]) rfl ⟨rfl, B, c, cs, HS.out⟩
end Go.Proofs.Yteabiokhbaekpaa

/- Contract: the ascending lists of a length, at most one more than the limit, in the program. -/
namespace Go.Proofs.Yteabiokhbaekpaa
open Go.RowKit

set_option maxRecDepth 100000 in
set_option maxHeartbeats 8000000 in
theorem choicesC_any (n many lim : Nat) (hn : n ≤ 100) (hmm : many ≤ 1000) (hlim : lim ≤ 100000) (w : World) :
    Calls Try.prog 19 #[.int .i64 n, .int .i64 many, .int .i64 lim] w fun e w' => ∃ B c cs, e = .returned (.slice B (capL lim (goL (n + 1) [] many 1)).length c) ∧ Sp w w' [Rows Ty.int 26 (.slice B (capL lim (goL (n + 1) [] many 1)).length c) cs (capL lim (goL (n + 1) [] many 1))] := by
  have Sn := (((((Sp.start w).alloc_box #[.int .i64 n] 3).alloc_box #[.int .i64 many] 3).alloc_box #[.int .i64 lim] 3).alloc_box #[.slice none 0 0] 24).alloc_box #[.func (.func 37) #[] #[.pointer (some ⟨w.heap.size + 1 + 1 + 1, 0, none⟩), .pointer (some ⟨w.heap.size + 1 + 1, 0, none⟩), .pointer (some ⟨w.heap.size + 1, 0, none⟩), .pointer (some ⟨w.heap.size, 0, none⟩), .pointer (some ⟨w.heap.size + 1 + 1 + 1 + 1, 0, none⟩)]] 62
  simp only [World.size_alloc] at Sn
  have S0 := Sn
  have S1 := (((S0.rows_nil Ty.int 26).own_nil 3 1))
  have S2 : Sp w _ (Own 3 1 (.slice none ([] : List Nat).length 0) ([] : List Nat).length ((ofN []).map (.int .i64)) :: GB (w.heap.size + 1 + 1 + 1) (w.heap.size + 1 + 1) (w.heap.size + 1) w.heap.size (w.heap.size + 1 + 1 + 1 + 1) none 0 [] [] n many lim []) := Sp.pick [0, 0, 1, 1, 1, 1, 0] S1 rfl
  have hcall := Lib.hid (growC_any n many lim (w.heap.size + 1 + 1 + 1) (w.heap.size + 1 + 1) (w.heap.size + 1) w.heap.size (w.heap.size + 1 + 1 + 1 + 1) hn hmm hlim many [] 1 none 0 none 0 [] [] w _ [] (by simp) (fun _ => rfl) (by omega) ⟨by simp, by simp⟩ (by rw [nextA_nil]; omega) (by simp) S2)
  have g0 := S2.cell (i := 6) rfl (o := 0) rfl
  clear S0 S1 Sn
  simp only [List.nil_append, List.length_nil, show ((1 : Nat) : Int) = 1 from rfl] at hcall
  generalize capL lim (goL (n + 1) [] many 1) = GL at *
  go_enter Try.func19, Try.ntmps19
  go_wp2_with fail
  refine hcall.out.mono ?_
  rintro e w2 ⟨rfl, B, c, cs, S3⟩
  have c2 := S3.cell (i := 2) rfl (o := 0) rfl
  have S4 := Lib.hid (Sp.pick [1] S3 rfl)
  clear hcall S3 g0 S2
  go_wp2_with fail
  go_ret
  exact ⟨B, c, cs, rfl, S4.out⟩
end Go.Proofs.Yteabiokhbaekpaa

/- Contracts: the laws' own comparisons of numbers. -/
namespace Go.Proofs.Yteabiokhbaekpaa
open Go.RowKit

theorem rBig_any (ca : Option Addr) (cl cc : Nat) (w : World) : Calls Try.prog 4 #[.slice ca cl cc] w fun e w' => e = .returned (.bool (decide ((65536 : Int) < (cl : Int)))) ∧ w' = w := by
  go_enter Try.func4, Try.ntmps4
  go_wp2_with fail
  go_ret
  exact ⟨rfl, rfl⟩

set_option maxRecDepth 100000 in
set_option maxHeartbeats 4000000 in
theorem rInts_same (A A' : Option Addr) (c c' : Nat) (ns : List Int) (w : World) (hx : IntsAt w A ns) (hy : IntsAt w A' ns) (hl : ns.length ≤ 1000000) :
    Calls Try.prog 8 #[.slice A ns.length c, .slice A' ns.length c'] w fun e w' => e = .returned (.bool true) ∧ Below w.heap.size w w' := by
  have hN := Lib.hid hx
  have hM := Lib.hid hy
  clear hx hy
  go_enter Try.func8, Try.ntmps8
  go_wp2_with fail
  go_loopw [5] (fun i wr => ∃ k : Nat, k ≤ ns.length ∧ i = .int .i64 k ∧ Hid (Below w.heap.size w wr)) (fun i _ => ns.length - (intOf i).toNat)
  case atStart => exact ⟨0, Nat.zero_le _, rfl, bb _⟩
  case round =>
    obtain ⟨k, hk, rfl, HS⟩ := hrel
    by_cases hlt : k < ns.length
    · obtain ⟨b, off, rfl, m0⟩ := (hN.out.grow HS.out).at_ k hlt
      obtain ⟨b', off', rfl, p0⟩ := (hM.out.grow HS.out).at_ k hlt
      have k0 := cell_regrown m0
      have q0 := cell_regrown p0
      generalize ns[k] = v at *
      clear m0 p0
      go_wp2_with fail
      refine wp_region_quiet_below (by kernel_rfl) (by kernel_rfl) ?_
      repeat (any_goals (go_big_quiet_step (fail)))
      refine wpQuiet_nil ?_
      rintro w3 ⟨p, rfl⟩
      have HS4 := Lib.hid (btr HS.out (below_regrown _ p.d p.os))
      clear HS k0 q0
      go_wp2_with fail
      go_roundw
      case rel => exact ⟨k + 1, by omega, by go_num, HS4⟩
      case measure => simp [intOf]; omega
    · obtain rfl : k = ns.length := by omega
      have hB := HS.out
      go_wp2_with fail
      go_ret
      exact ⟨rfl, hB⟩

/- left out: the seat has no laws.vInts -/
end Go.Proofs.Yteabiokhbaekpaa

/- Contracts: numbers sorted and without repetitions, in the library. -/
namespace Go.Proofs.Yteabiokhbaekpaa
open Go.RowKit Go.Sort

theorem sortI_any (xs : List Int) (B : Option Addr) (cc : Nat) (w0 w : World) (ps : List Asn) (S : Sp w0 w (Own 3 1 (.slice B xs.length cc) xs.length (xs.map (.int .i64)) :: ps)) (hl : xs.length ≤ 1000000) :
    Calls Try.prog 58 #[.slice B xs.length cc] w fun e w' => e = .returned (.tuple #[]) ∧ Sp w0 w' (Own 3 1 (.slice B xs.length cc) xs.length ((xs.mergeSort fun x y => decide (x ≤ y)).map (.int .i64)) :: ps) := by
  rcases Nat.eq_zero_or_pos xs.length with h0 | h0
  · obtain rfl : xs = [] := List.length_eq_zero_iff.1 h0
    refine (Try.slices_Sort_int_none B cc w).mono ?_
    rintro e w' ⟨rfl, rfl⟩
    refine ⟨rfl, ?_⟩
    rw [List.mergeSort_nil]
    exact S
  · obtain ⟨g, cap, cur, e1, h0', hg, hnc, hmx, hc, ht⟩ := own_block (S.own (i := 0) rfl) h0
    simp only [Value.slice.injEq] at e1
    obtain ⟨rfl, -, rfl⟩ := e1
    rw [Nat.mul_one] at ht
    have hH := holds_of_blockI hg ht
    refine (Try.slices_Sort_int g 0 cc xs w hH (S.own (i := 0) rfl |> fun h => owns_lt h rfl) (by omega)).mono ?_
    rintro e w' ⟨rfl, n, os, rfl⟩
    exact ⟨rfl, S.own_push (i := 0) rfl (bb _) (ownsRow_sortedI (List.length_mergeSort _) (Nat.zero_le _) hg hnc hmx hc) (grownBy_sortedI _) (.inl rfl)⟩

theorem compactI_any (xs : List Int) (B : Option Addr) (cc : Nat) (w0 w : World) (ps : List Asn) (S : Sp w0 w (Own 3 1 (.slice B xs.length cc) xs.length (xs.map (.int .i64)) :: ps)) (hl : xs.length ≤ 1000000) :
    Calls Try.prog 59 #[.slice B xs.length cc] w fun e w' => e = .returned (.slice B (Lib.compact xs).length cc) ∧ Sp w0 w' (Own 3 1 (.slice B (Lib.compact xs).length cc) (Lib.compact xs).length ((Lib.compact xs).map (.int .i64)) :: ps) := by
  rcases Nat.eq_zero_or_pos xs.length with h0 | h0
  · obtain rfl : xs = [] := List.length_eq_zero_iff.1 h0
    refine (Try.slices_Compact_int_empty B cc w).mono ?_
    rintro e w' ⟨rfl, rfl⟩
    exact ⟨rfl, S⟩
  · obtain ⟨g, cap, cur, e1, h0', hg, hnc, hmx, hc, ht⟩ := own_block (S.own (i := 0) rfl) h0
    simp only [Value.slice.injEq] at e1
    obtain ⟨rfl, -, rfl⟩ := e1
    rw [Nat.mul_one] at ht
    have hH := holds_of_blockI hg ht
    have hcl : (Lib.compact xs).length ≤ xs.length := Lib.compact_length_le xs
    refine (Try.slices_Compact_int g 0 cc xs w hH (by omega) hnc).mono ?_
    rintro e w' ⟨rfl, q, rfl⟩
    have h := S.own_putRow (i := 0) (q := q) (m := (Lib.compact xs).length) (Value.int .i64) (Lib.compact xs ++ List.replicate (xs.length - (Lib.compact xs).length) 0).toArray rfl (by simp; omega) (by simp) h0
    refine ⟨rfl, ?_⟩
    have e2 : (((Lib.compact xs ++ List.replicate (xs.length - (Lib.compact xs).length) 0).toArray.toList.map (Value.int .i64)).take (Lib.compact xs).length) = (Lib.compact xs).map (.int .i64) := by
      rw [List.toList_toArray, List.map_append, List.take_append_of_le_length (by simp), List.take_of_length_le (by simp)]
    rw [e2] at h
    exact h
end Go.Proofs.Yteabiokhbaekpaa

/- An own row of numbers with one more. No program in sight. -/
namespace Go.Proofs.Yteabiokhbaekpaa
open Go.RowKit

theorem ownI_snoc {w0 w : World} {ps : List Asn} {e : TypeId} {d : List Int} {x : Int} {A : Option Addr} {c : Nat} (S : Sp w0 w (Own e 1 (.slice A (d.length + 1) c) (d.length + 1) (d.map (.int .i64) ++ [.int .i64 x]) :: ps)) :
    Sp w0 w (Own e 1 (.slice A (d ++ [x]).length c) (d ++ [x]).length ((d ++ [x]).map (.int .i64)) :: ps) := by
  rw [List.map_append, List.length_append]; exact S
theorem ownI_snocC {w0 w : World} {g cl cc A0 : Nat} {ca : Option Addr} {ps : List Asn} {e : TypeId} {d : List Int} {x : Int} {A : Option Addr} {c : Nat} (S : CS w0 g ca cl cc A0 w (Own e 1 (.slice A (d.length + 1) c) (d.length + 1) (d.map (.int .i64) ++ [.int .i64 x]) :: ps)) :
    CS w0 g ca cl cc A0 w (Own e 1 (.slice A (d ++ [x]).length c) (d ++ [x]).length ((d ++ [x]).map (.int .i64)) :: ps) := by
  rw [List.map_append, List.length_append]; exact S
end Go.Proofs.Yteabiokhbaekpaa

/- Contract: the variables of clauses, in the program. -/
namespace Go.Proofs.Yteabiokhbaekpaa
open Go.RowKit

theorem flatA_small {cls : List (List Int)} (hc : ∀ c ∈ cls, ClS c) : ∀ x ∈ flatA cls, 0 ≤ x ∧ x ≤ 1000 := fun x hx => by
  unfold flatA at hx
  obtain ⟨c, hcm, hx⟩ := List.mem_flatMap.1 hx
  obtain ⟨l, hl, rfl⟩ := List.mem_map.1 hx
  have := (hc c hcm).1 l hl
  unfold LitS at this
  omega
theorem flatA_in {cls : List (List Int)} {k j : Nat} (hk : k < cls.length) (hj : j < cls[k].length) : flatA (cls.take k) ++ (cls[k].take (j + 1)).map (fun l => (l.natAbs : Int)) = flatA (cls.take k) ++ (cls[k].take j).map (fun l => (l.natAbs : Int)) ++ [(cls[k][j].natAbs : Int)] := by
  rw [List.take_succ_eq_append_getElem hj, List.map_append, List.append_assoc]
  rfl

set_option maxRecDepth 100000 in
set_option maxHeartbeats 8000000 in
theorem varsOf_any (cls : List (List Int)) (hc : ∀ c ∈ cls, ClS c) (n : Nat) (hn : ∀ c ∈ cls, ∀ l ∈ c, l ≠ 0 ∧ l.natAbs ≤ n) (hl : cls.length ≤ 100) (A : Option Addr) (cap : Nat) (w : World) (hx : ClsAt w A cls) :
    Calls Try.prog 39 #[.slice A cls.length cap] w fun e w' => ∃ B cc, e = .returned (.slice B (varF n (usedB cls)).length cc) ∧ Sp w w' [Own 3 1 (.slice B (varF n (usedB cls)).length cc) (varF n (usedB cls)).length ((varF n (usedB cls)).map (.int .i64))] := by
  obtain ⟨i0, hi0, hy0, hy1, hy2⟩ := info_parts infoInt
  have S0 := Lib.hid ((Sp.start w).own_nil 3 1)
  have hX := Lib.hid hx
  have hfin := Lib.hid (used_asc hn)
  have hcH := Lib.hid hc
  have hfl : Hid ((flatA cls).length ≤ 1000 * cls.length) := Lib.hid (flatA_len fun c h => (hc c h).2)
  clear hx hn hc
  generalize varF n (usedB cls) = zs at *
  go_enter Try.func39, Try.ntmps39
  go_wp2_with fail
  go_loopw [3, 5, 7, 10] (fun v3 _ _ v10 wr => ∃ (k : Nat) (ys : List Int) (B : Option Addr) (cc : Nat), k ≤ cls.length ∧ v10 = .int .i64 k ∧ v3 = .slice B ys.length cc ∧ Hid (ys = flatA (cls.take k)) ∧ Hid (Sp w wr [Own 3 1 (.slice B ys.length cc) ys.length (ys.map (.int .i64))])) (fun _ _ _ v10 _ => cls.length - (intOf v10).toNat)
  case atStart => exact ⟨0, [], none, 0, Nat.zero_le _, rfl, rfl, rfl, S0⟩
  case round =>
    clear S0
    obtain ⟨k, ys, B, cc, hk, rfl, rfl, hys, HS⟩ := hrel
    by_cases hlt : k < cls.length
    · obtain ⟨ab, aoff, Bk, ck, rfl, n0, hIk⟩ := hX.out.at_ k hlt
      have n1 := (HS.out.below.cell (World.block_lt_of_cell? _ _ n0)).trans n0
      have hckS := hcH.out _ (List.getElem_mem hlt)
      have hlk := hckS.2
      have hyl : ys.length ≤ 100000 := by
        rw [hys.out]
        have := flatA_len (cls := cls.take k) (m := 1000) fun c h => (hcH.out c (List.mem_of_mem_take h)).2
        rw [List.length_take] at this
        omega
      have hin := Lib.hid (fun j (hj : j < cls[k].length) => flatA_in hlt hj)
      have hend := Lib.hid (flatA_take hlt)
      have hst : Hid (ys = flatA (cls.take k) ++ (cls[k].take 0).map (fun l => (l.natAbs : Int))) := by unfold Hid; rw [hys.out]; simp
      have hlast : Hid ((cls[k].take cls[k].length).map (fun l => (l.natAbs : Int)) = cls[k].map fun l => (l.natAbs : Int)) := by unfold Hid; rw [List.take_length]
      replace hckS := Lib.hid hckS
      replace hIk := Lib.hid hIk
      obtain ⟨fk1, hfk⟩ : ∃ f, flatA (cls.take (k + 1)) = f := ⟨_, rfl⟩
      rw [hfk] at hend
      replace hfk := Lib.hid hfk
      generalize flatA (cls.take k) = fk at *
      generalize cls[k] = c at *
      clear n0 hys
      go_wp2_with fail
      go_loopw [3, 7, 16] (fun v3 _ v16 wr => ∃ (j : Nat) (zs : List Int) (B : Option Addr) (cc : Nat), j ≤ c.length ∧ v16 = .int .i64 j ∧ v3 = .slice B zs.length cc ∧ zs.length ≤ ys.length + j ∧ Hid (zs = fk ++ (c.take j).map (fun l => (l.natAbs : Int))) ∧ Hid (Sp w wr [Own 3 1 (.slice B zs.length cc) zs.length (zs.map (.int .i64))])) (fun _ _ v16 _ => c.length - (intOf v16).toNat)
      case atStart => exact ⟨0, ys, B, cc, Nat.zero_le _, rfl, rfl, by omega, hst, HS⟩
      case round =>
        clear HS
        obtain ⟨j, us, D, dc, hj, rfl, rfl, hul, hus, HS⟩ := hrel
        by_cases hlt2 : j < c.length
        · obtain ⟨db, doff, rfl, m0⟩ := hIk.out.at_ j hlt2
          have m1 := (HS.out.below.cell (World.block_lt_of_cell? _ _ m0)).trans m0
          have hlit := hckS.out.1 _ (List.getElem_mem hlt2)
          have habs := Lib.hid (fun W => abs_at hlit.i64 (absV_lit hlit) W)
          have hin2 := Lib.hid (hin.out j hlt2)
          obtain ⟨x, hxx⟩ : ∃ x : Int, ((c[j].natAbs : Nat) : Int) = x := ⟨_, rfl⟩
          rw [hxx] at habs hin2
          clear m0 hlit
          generalize c[j] = l at *
          clear hxx
          go_wp2_with fail
          refine (habs.out _).mono ?_
          rintro e w2 ⟨rfl, hb2⟩
          have HS2 := Lib.hid (HS.out.grow hb2)
          clear HS hb2 m1 habs
          have S3 := HS2.out.alloc_box #[.int .i64 x] 3
          (try simp only [World.size_setCell] at S3)
          have kB := S3.cell (i := 0) rfl (o := 0) rfl
          replace S3 := Lib.hid S3
          clear HS2
          go_wp2_with (at_builtin; refine wpList_append_src rfl _ _ rfl Try.underlying26 hi0 hy0 hy1 hy2 rfl (by decide) _ _ _ rfl (S3.out.own (i := 1) rfl) _ 1 1 [.int .i64 x] rfl (Src.one kB) (by simp [Value.oneCell']) ?c3 ?c4 ?_)
          case c3 => unfold maxLen; omega
          case c4 => omega
          intro vY wY hownY hgY hatY
          have S4 := (S3.out.own_push (i := 1) rfl (bb _) hownY hgY (by simpa using hatY)).tail
          obtain ⟨aY, cY, rfl⟩ := own_slice hownY
          have S5 := Lib.hid (ownI_snoc (d := us) (x := x) S4)
          clear S3 S4 kB hownY hgY hatY
          have hlen : us.length + 1 = (us ++ [x]).length := by simp
          rw [hlen]
          replace hlen := Lib.hid hlen
          have hus2 : Hid (us ++ [x] = fk ++ (c.take (j + 1)).map (fun l => (l.natAbs : Int))) := by unfold Hid; rw [hin2.out, hus.out]
          have hul2 : (us ++ [x]).length ≤ ys.length + (j + 1) := by rw [← hlen.out]; omega
          clear hus hin2 hlen hul
          generalize us ++ [x] = us2 at *
          go_wp2_with fail
          go_roundw
          case rel => exact ⟨j + 1, us2, aY, cY, by omega, by go_num, rfl, hul2, hus2, S5⟩
          case measure => simp [intOf]; omega
        · obtain rfl : j = c.length := by omega
          have hus2 : Hid (us = flatA (cls.take (k + 1))) := by unfold Hid; rw [hus.out, hlast.out, hfk.out, hend.out]
          go_wp2_with fail
          go_roundw
          case rel => exact ⟨k + 1, us, D, dc, by omega, by go_num, rfl, hus2, HS⟩
          case measure => simp [intOf]; omega
    · obtain rfl : k = cls.length := by omega
      have hyl : ys.length ≤ 1000000 := by
        have := hfl.out
        rw [hys.out, List.take_length]; omega
      have hys2 : Hid (Lib.compact (ys.mergeSort fun x y => decide (x ≤ y)) = zs) := by
        have := hys.out
        rw [List.take_length] at this
        unfold Hid; rw [this]; exact hfin.out
      have hso := Lib.hid (sortI_any ys B cc w _ [] HS.out hyl)
      clear HS hys hfl hfin
      go_wp2_with fail
      refine hso.out.mono ?_
      rintro e w2 ⟨rfl, S2⟩
      have hel : ys.length = (ys.mergeSort fun x y => decide (x ≤ y)).length := (List.length_mergeSort _).symm
      rw [hel] at S2 hyl ⊢
      have hco := Lib.hid (compactI_any _ B cc w _ [] S2 hyl)
      rw [hys2.out] at hco
      clear S2 hys2 hso
      replace hel := Lib.hid hel
      generalize (ys.mergeSort fun x y => decide (x ≤ y)) = ys2 at *
      go_wp2_with fail
      refine hco.out.mono ?_
      rintro e w3 ⟨rfl, S3⟩
      replace S3 := Lib.hid S3
      go_wp2_with fail
      go_ret
      exact ⟨B, cc, rfl, S3.out⟩
end Go.Proofs.Yteabiokhbaekpaa

/- Contracts: the sides of a Cnf, in the reference. -/
namespace Go.Proofs.Yteabiokhbaekpaa
open Go.RowKit

set_option maxHeartbeats 1000000 in
theorem l1HasI_any (xs : List Int) (A : Option Addr) (cap : Nat) (x : Int) (w : World) (hx : IntsAt w A xs) (hl : xs.length ≤ 1000000) :
    Calls Try.prog 44 #[.slice A xs.length cap, .int .i64 x] w fun e w' => e = .returned (.bool (hasI xs x)) ∧ w = w' := by
  have hX := Lib.hid hx
  clear hx
  go_enter Try.func44, Try.ntmps44
  go_wp2_with fail
  go_loopw [5] (fun i wr => ∃ k : Nat, k ≤ xs.length ∧ i = .int .i64 k ∧ Hid (hasI (xs.take k) x = false) ∧ w = wr) (fun i _ => xs.length - (intOf i).toNat)
  case atStart => exact ⟨0, Nat.zero_le _, rfl, by simp [Hid, hasI], rfl⟩
  case round =>
    obtain ⟨k, hk, rfl, HR, rfl⟩ := hrel
    by_cases hlt : k < xs.length
    · obtain ⟨b, off, rfl, k0⟩ := hX.out.at_ k hlt
      by_cases he : xs[k] = x
      · have HN : Hid (hasI xs x = true) := hasI_yes hlt he
        have he' : (xs[k] == x) = true := by simpa using he
        clear he HR
        go_wp2_with fail
        go_ret
        exact ⟨ret_bool HN.out.symm, rfl⟩
      · have HN : Hid (hasI (xs.take (k + 1)) x = false) := hasI_no hlt HR.out he
        have he' : (xs[k] == x) = false := by simpa using he
        clear he HR
        go_wp2_with fail
        go_roundw
        case rel => exact ⟨k + 1, by omega, by go_num, HN, by first | rfl | trivial⟩
        case measure => simp [intOf]; omega
    · obtain rfl : k = xs.length := by omega
      have HN := HR.out
      rw [List.take_length] at HN
      replace HN := Lib.hid HN
      clear HR
      go_wp2_with fail
      go_ret
      exact ⟨ret_bool HN.out.symm, rfl⟩

/- left out: the seat has no spec.l2Has -/

/-- A literal is in some clause. -/
def occB (cls : List (List Int)) (l : Int) : Bool := cls.any fun c => hasI c l
theorem occ_used {cls : List (List Int)} {v : Nat} : (occB cls v || occB cls (-v)) = usedB cls v := by
  unfold occB usedB hasI
  rw [Bool.eq_iff_iff]
  simp only [Bool.or_eq_true, List.any_eq_true, List.contains_iff_mem, beq_iff_eq]
  constructor
  · rintro (⟨c, hc, h⟩ | ⟨c, hc, h⟩)
    · exact ⟨c, hc, _, h, by simp⟩
    · exact ⟨c, hc, _, h, by simp⟩
  · rintro ⟨c, hc, l, hl, rfl⟩
    rcases Int.natAbs_eq l with e | e
    · exact .inl ⟨c, hc, by rw [← e]; exact hl⟩
    · exact .inr ⟨c, hc, by rw [← e]; exact hl⟩
theorem occ_yes {cls : List (List Int)} {l : Int} {k : Nat} (hk : k < cls.length) (h : hasI cls[k] l = true) : occB cls l = true := List.any_eq_true.2 ⟨_, List.getElem_mem hk, h⟩
theorem occ_no {cls : List (List Int)} {l : Int} {k : Nat} (hk : k < cls.length) (h0 : occB (cls.take k) l = false) (h : hasI cls[k] l = false) : occB (cls.take (k + 1)) l = false := by
  unfold occB at *
  rw [List.take_succ_eq_append_getElem hk, List.any_append, h0]
  simp [h]

/- left out: the seat has no spec.l2Occurs -/

theorem ClsAt.to {w : World} {A : Option Addr} {cls : List (List Int)} (h : ClsAt w A cls) (k : Nat) : ClsAt w A (cls.take k) := ⟨fun j hj => by
  have hj2 : j < cls.length := by rw [List.length_take] at hj; omega
  obtain ⟨b, off, B, c, e, h1, h2⟩ := h.at_ j hj2
  exact ⟨b, off, B, c, e, by rw [List.getElem_take]; exact h1, by rw [List.getElem_take]; exact h2⟩⟩
theorem ClsAt.from {w : World} {A : Option Addr} {cls : List (List Int)} {cap : Nat} (h : ClsAt w A cls) (k : Nat) (hc : cls.length ≤ cap) : ClsAt w (cutA A cap k 1) (cls.drop k) := ⟨fun j hj => by
  rw [List.length_drop] at hj
  obtain ⟨b, off, B, c, e, h1, h2⟩ := h.at_ (k + j) (by omega)
  subst e
  refine ⟨b, off + k, B, c, ?_, ?_, ?_⟩
  · unfold cutA
    rw [if_neg (by omega), Option.map_some, add_none, Nat.mul_one]
  · rw [List.getElem_drop, Nat.add_assoc]; exact h1
  · rw [List.getElem_drop]; exact h2⟩

/-- A side is asked for. -/
def askB (vars : Int) (xss : List (List Int)) (k : Int) : Bool := goodB vars xss && inB k 0 xss.length

/- left out: the seat has no spec.l29Asked -/

/- left out: the seat has no spec.l29Left -/
end Go.Proofs.Yteabiokhbaekpaa

/- Contracts: the variables of both sides, in the reference. -/
namespace Go.Proofs.Yteabiokhbaekpaa
open Go.RowKit

/-- The parts of what the reference tells of the sides. -/
def onlyL (L R : List (List Int)) (v : Nat) : Bool := usedB L v && !usedB R v
def bothL (L R : List (List Int)) (v : Nat) : Bool := usedB L v && usedB R v
theorem varF_yes {n : Nat} {p : Nat → Bool} {z : Int} (hz : (n : Int) + 1 = z) (h : p (n + 1) = true) : varF n p ++ [z] = varF (n + 1) p := by
  rw [varF_snoc, if_pos h, ← hz]; rfl
theorem varF_no {n : Nat} {p : Nat → Bool} (h : p (n + 1) = false) : varF n p = varF (n + 1) p := by
  rw [varF_snoc, h]; simp
/-- Three rows of numbers. -/
def Ints3 (w : World) (a b c : List Int) (e : Ending) (w' : World) : Prop :=
  ∃ D dc E ec G gc, e = .returned (.tuple #[.slice D a.length dc, .slice E b.length ec, .slice G c.length gc]) ∧ Sp w w' [Own 3 1 (.slice D a.length dc) a.length (a.map (.int .i64)), Own 3 1 (.slice E b.length ec) b.length (b.map (.int .i64)), Own 3 1 (.slice G c.length gc) c.length (c.map (.int .i64))]

/- left out: the seat has no spec.l29Sides -/

end Go.Proofs.Yteabiokhbaekpaa

/- Contract: the sides of a Cnf, in the reference. -/
namespace Go.Proofs.Yteabiokhbaekpaa
open Go.RowKit

/-- Three rows of numbers, and whether they are told. -/
def Ints4 (w : World) (ok : Bool) (a b c : List Int) (e : Ending) (w' : World) : Prop :=
  ∃ D dc E ec G gc, e = .returned (.tuple #[.slice D a.length dc, .slice E b.length ec, .slice G c.length gc, .bool ok]) ∧ IntsAt w' D a ∧ IntsAt w' E b ∧ IntsAt w' G c ∧ Below w.heap.size w w'
/-- What is told of the sides. -/
def sideL (vars : Int) (xss : List (List Int)) (k : Int) (L R : List (List Int)) : List Int := if askB vars xss k then varF vars.toNat (onlyL L R) else []
def sideB (vars : Int) (xss : List (List Int)) (k : Int) (L R : List (List Int)) : List Int := if askB vars xss k then varF vars.toNat (bothL L R) else []
theorem varF_ok {n : Nat} (hn : n ≤ 1000) {p : Nat → Bool} : ∀ x ∈ varF n p, I64 x := fun x hx => by
  have := varF_mem.1 hx
  unfold I64; omega
theorem Sp.ints {w0 w : World} {ps : List Asn} {i : Nat} {A : Option Addr} {cs : List Int} {c : Nat} {e : TypeId} (h : Sp w0 w ps) (hi : ps[i]? = some (Own e 1 (.slice A cs.length c) cs.length (cs.map (.int .i64)))) (hok : ∀ x ∈ cs, I64 x) : IntsAt w A cs := by
  obtain ⟨A', c', e1, hI⟩ := ints_own (h.own hi) hok
  cases e1
  exact hI
theorem ask_parts {vars : Int} {xss : List (List Int)} {k : Int} (h : askB vars xss k = true) : goodB vars xss = true ∧ 0 ≤ k ∧ k ≤ xss.length := by
  unfold askB at h
  rw [Bool.and_eq_true, inB_true] at h
  exact ⟨h.1, h.2.1, h.2.2⟩

/- left out: the seat has no spec.SidesOf -/
end Go.Proofs.Yteabiokhbaekpaa

/- Contracts: a Cnf with its left clauses, in the program. -/
namespace Go.Proofs.Yteabiokhbaekpaa
open Go.RowKit

theorem containsIA_any (xs : List Int) (A : Option Addr) (cap : Nat) (x : Int) (w : World) (hx : IntsAt w A xs) (hl : xs.length ≤ 1000000) :
    Calls Try.prog 43 #[.slice A xs.length cap, .int .i64 x] w fun e w' => e = .returned (.bool (hasI xs x)) ∧ w' = w := by
  rcases Nat.eq_zero_or_pos xs.length with h0 | h0
  · obtain rfl : xs = [] := List.length_eq_zero_iff.1 h0
    exact Try.slices_Contains_int_empty A cap x w
  · obtain ⟨b, off, rfl, -⟩ := hx.at_ 0 h0
    have h := Try.slices_Contains_int b off xs.length cap xs x w (Nat.le_refl _) (by omega) fun j hj => by
      obtain ⟨b', off', e, h1⟩ := hx.at_ j hj
      cases e
      rw [h1, List.getD_eq_getElem?_getD, List.getElem?_eq_getElem hj]; rfl
    rw [List.take_length] at h
    exact h

theorem has_varF {n : Nat} {q : Nat → Bool} {x : Int} (h1 : 1 ≤ x) (h2 : x ≤ n) : hasI (varF n q) x = q x.toNat := by
  unfold hasI
  rw [Bool.eq_iff_iff, List.contains_iff_mem, varF_mem]
  exact ⟨fun h => h.2.2, fun h => ⟨h1, h2, h⟩⟩
theorem filt_both (n : Nat) (p q : Nat → Bool) : ((varF n p).filter fun x => !(!hasI (varF n q) x)) = varF n fun v => p v && q v := by
  rw [← varF_sub]
  apply List.filter_congr
  intro x hx
  obtain ⟨h1, h2, -⟩ := varF_mem.1 hx
  rw [Bool.not_not, has_varF h1 h2]
theorem filt_only (n : Nat) (p q : Nat → Bool) : ((varF n p).filter fun x => !hasI (varF n fun v => p v && q v) x) = varF n fun v => p v && !q v := by
  rw [← varF_sub n p (fun v => !q v)]
  apply List.filter_congr
  intro x hx
  obtain ⟨h1, h2, h3⟩ := varF_mem.1 hx
  rw [has_varF h1 h2, h3, Bool.true_and]

/- left out: the seat has no (*loop.example/g01080/impl.split).left -/

/- left out: the seat has no (*loop.example/g01080/impl.split).right -/

/- left out: the seat has no impl.splitOf$1 -/
end Go.Proofs.Yteabiokhbaekpaa

/- Contracts: a Cnf with its left clauses, in the program: made. -/
namespace Go.Proofs.Yteabiokhbaekpaa
open Go.RowKit

/- left out: the seat has no impl.splitOf -/

/- left out: the seat has no impl.split -/

/- left out: the seat has no impl.splitOf -/
end Go.Proofs.Yteabiokhbaekpaa

/- Contract: the sides of a Cnf, in the program. -/
namespace Go.Proofs.Yteabiokhbaekpaa
open Go.RowKit

/- left out: the seat has no impl.SidesOf$1$1 -/

/-- A row of numbers of the call's own. -/
def OneI (w : World) (zs : List Int) (e : Ending) (w' : World) : Prop := ∃ D dc, e = .returned (.slice D zs.length dc) ∧ Sp w w' [Own 3 1 (.slice D zs.length dc) zs.length (zs.map (.int .i64))]
theorem cell_below {w w' : World} {a : Addr} {u : Value} (h : w.cell? a = some u) (hb : Below w.heap.size w w') : w'.cell? a = some u := (hb.cell (World.block_lt_of_cell? _ _ h)).trans h

/- left out: the seat has no impl.SidesOf$1 -/

/- left out: the seat has no impl.SidesOf -/
end Go.Proofs.Yteabiokhbaekpaa

/- Memory in parts beside a cursor that turns: rows of rows. -/
namespace Go.Proofs.Yteabiokhbaekpaa
open Go.RowKit

/-- An own row of numbers is a row with all that it reaches. -/
theorem Sp.own_to_row {w0 w : World} {ps : List Asn} {e : TypeId} {v : Value} {c : List Int} (h : Sp w0 w (Own e 1 v c.length (c.map (.int .i64)) :: ps)) (hok : ∀ x ∈ c, I64 x) : Sp w0 w (Row Ty.int v c :: ps) := by
  obtain ⟨F, ⟨rfl, ho⟩, _, hall⟩ := h.upd (i := 0) rfl
  obtain ⟨F, hr, hF, _⟩ := Ty.row_of_owns (T := Ty.int) ho rfl (by decide) (Ty.all_int hok)
  refine hall w (Row Ty.int v c) F (Chg.refl _ _) ⟨hr, ?_⟩ fun b hb => .inl ?_
  · rcases hF with rfl | ⟨g, _, _, _, rfl⟩ <;> simp
  · rcases hF with rfl | ⟨g, _, _, hg, rfl⟩
    · simp at hb
    · simp [hg] at hb ⊢; exact hb
section
variable {w0 w w' w1 : World} {g cl cc A i : Nat} {ca : Option Addr} {ps : List Asn} {e : TypeId}
theorem CS.own_to_row {v : Value} {c : List Int} (h : CS w0 g ca cl cc A w (Own e 1 v c.length (c.map (.int .i64)) :: ps)) (hok : ∀ x ∈ c, I64 x) : CS w0 g ca cl cc A w (Row Ty.int v c :: ps) := by
  obtain ⟨F, ⟨rfl, ho⟩, _, hall⟩ := h.upd (i := 0) rfl
  obtain ⟨F, hr, hF, _⟩ := Ty.row_of_owns (T := Ty.int) ho rfl (by decide) (Ty.all_int hok)
  refine hall w (Row Ty.int v c) F (Chg.refl _ _) ⟨hr, ?_⟩ fun b hb => .inl ?_
  · rcases hF with rfl | ⟨g, _, _, _, rfl⟩ <;> simp
  · rcases hF with rfl | ⟨g, _, _, hg, rfl⟩
    · simp at hb
    · simp [hg] at hb ⊢; exact hb
variable {α : Type} {T : Ty α} {v v' u : Value} {cs : List Value} {xss : List (List α)} {ys : List α}
theorem CS.rows (h : CS w0 g ca cl cc A w ps) (hi : ps[i]? = some (Rows T e v cs xss)) : w.ownsRow 0 e 1 v xss.length cs := by
  obtain ⟨F, ⟨G, _, _, _, h⟩, _⟩ := h.get hi
  exact h
theorem CS.rows_made (h : CS w0 g ca cl cc A w ps) (T : Ty α) (e : TypeId) : CS w0 g ca cl cc A (w.alloc (.cells #[] e)) (Rows T e (.slice (some ⟨w.heap.size, 0, none⟩) 0 0) [] [] :: ps) :=
  h.new (F := [w.heap.size]) (bal (bb _) _) ⟨[], rfl, by simp, ⟨rfl, rfl⟩, ⟨by simp, .inr ⟨w.heap.size, 0, #[], rfl, Nat.zero_le _, heap_alloc_new w _, Nat.le_refl _, by decide, by simp, by simp⟩⟩⟩ (by simp)
/-- A row goes into a row of rows. -/
theorem CS.rows_push (h : CS w0 g ca cl cc A w (Row T u ys :: Rows T e v cs xss :: ps)) (hb : Below w.heap.size w w1) (ho : w'.ownsRow 0 e 1 v' (xss.length + 1) (cs ++ [u])) (hg : w1.grownBy w' v.ownBlock)
    (hat : v'.ownBlock = v.ownBlock ∨ v'.ownBlock = some w1.heap.size) : CS w0 g ca cl cc A w' (Rows T e v' (cs ++ [u]) (xss ++ [ys]) :: ps) := by
  have hsz := h.chg.size
  obtain ⟨⟨A0, h0'⟩, hcur, h1, F, ⟨F1, F2, rfl, hd, ⟨hr, hn⟩, ⟨F3, F4, rfl, hd', ⟨G, rfl, hn', hall, hown⟩, h5⟩⟩, h3⟩ := h
  have hr1 := Ty.row_keep hr fun b hm => hb.block b (Ty.row_lt hr b hm)
  have hall1 := Ty.all_keep hall fun b hm => hb.block b (Ty.all_lt hall b hm)
  have h51 := sep_keep h5 fun b hm => hb.block b (sep_lt h5 b hm)
  have hkeep : ∀ b, b < w.heap.size → (∀ g, v.ownBlock = some g → b ≠ g) → w'.heap[b]? = w1.heap[b]? := fun b hlt hne => hg.block b (Nat.lt_of_lt_of_le hlt hb.size) (fun e => hne b e.symm rfl)
  have hr2 := Ty.row_keep hr1 fun b hm => hkeep b (Ty.row_lt hr b hm) fun g hg' e => hd b hm (by simp [hg', e])
  have hnG : ∀ b ∈ G, ∀ g, v.ownBlock = some g → b ≠ g := fun b hm g hg' e => by
    rw [List.nodup_append] at hn'
    exact hn'.2.2 g (by simp [hg']) b hm e.symm
  have hall2 := Ty.all_keep hall1 fun b hm => hkeep b (Ty.all_lt hall b hm) (hnG b hm)
  have h52 := sep_keep h51 fun b hm => hkeep b (sep_lt h5 b hm) fun g hg' e => hd' b (by simp [hg', e]) hm
  have hlv : ∀ b ∈ v'.ownBlock.toList, b ∈ v.ownBlock.toList ∨ b = w1.heap.size := fun b hm => by
    rcases hat with h | h
    · left; rwa [h] at hm
    · right; rw [h] at hm; simpa using hm
  have hs := hb.size
  have hold : ∀ k, k < w0.heap.size → w'.heap[k]? = w.heap[k]? := fun k hk => (hkeep k (by omega) fun g hg' e => by have := h3 g (by simp [hg']); omega).trans (hb.block k (by omega))
  have hchg : Chg [g] w0 w' := ⟨hg.os.trans (hb.os.trans h1.os), hg.tape.trans (hb.tape.trans h1.tape), hg.output.trans (hb.output.trans h1.output), by have := hg.size; omega, fun k hk hn => (hold k hk).trans (h1.block k hk hn)⟩
  refine ⟨⟨A0, h0'⟩, h0'.stay hcur hold, hchg, (v'.ownBlock.toList ++ (G ++ F1)) ++ F4, ⟨_, F4, rfl, ?_, ⟨G ++ F1, rfl, ?_, ?_, by simpa using ho⟩, h52⟩, ?_⟩
  · intro b hm hm4
    rcases List.mem_append.1 hm with hm | hm
    · rcases hlv b hm with h | h
      · exact hd' b (List.mem_append.2 (.inl h)) hm4
      · have := sep_lt h5 b hm4; omega
    · rcases List.mem_append.1 hm with hm | hm
      · exact hd' b (List.mem_append.2 (.inr hm)) hm4
      · exact hd b hm (List.mem_append.2 (.inr hm4))
  · refine List.nodup_append.2 ⟨by cases v'.ownBlock <;> simp, List.nodup_append.2 ⟨(List.nodup_append.1 hn').2.1, hn, fun x hx y hy e => hd y hy (by simp [← e, hx])⟩, fun x hx y hy e => ?_⟩
    subst e
    rcases hlv x hx with h | h
    · rcases List.mem_append.1 hy with hy | hy
      · exact (List.nodup_append.1 hn').2.2 x h x hy rfl
      · exact hd x hy (List.mem_append.2 (.inl (List.mem_append.2 (.inl h))))
    · rcases List.mem_append.1 hy with hy | hy
      · have := Ty.all_lt hall x hy; omega
      · have := Ty.row_lt hr x hy; omega
  · exact Ty.all_snoc hall2 ⟨u, rfl, hr2⟩
  · intro b hm
    rcases List.mem_append.1 hm with hm | hm
    · rcases List.mem_append.1 hm with hm | hm
      · rcases hlv b hm with h | h
        · exact h3 b (by simp at h ⊢; simp [h])
        · omega
      · rcases List.mem_append.1 hm with hm | hm
        · exact h3 b (by simp [hm])
        · exact h3 b (by simp [hm])
    · exact h3 b (by simp [hm])
/-- The finished row of rows. -/
theorem CS.rows_done (h : CS w0 g ca cl cc A w ps) (hi : ps[i]? = some (Rows T e v cs xss)) : ∃ F, (Ty.slice T).row true w v xss F ∧ F.Nodup ∧ (∀ b ∈ F, w0.heap.size ≤ b) := by
  obtain ⟨F, ⟨G, rfl, hn, hall, hown⟩, hF⟩ := h.get hi
  obtain ⟨F', hr, hF', _⟩ := Ty.row_of_owns hown rfl (by decide) hall
  rcases hF' with rfl | ⟨g, _, _, ho, rfl⟩
  · exact ⟨[], hr, by simp, by simp⟩
  · refine ⟨g :: G, hr, ?_, ?_⟩
    · rw [ho] at hn; simpa using hn
    · rw [ho] at hF; simpa using hF
end
end Go.Proofs.Yteabiokhbaekpaa

/- Contracts: Cnfs compared in the laws; rows and lists of rows copied, on both sides. -/
namespace Go.Proofs.Yteabiokhbaekpaa
open Go.RowKit

/- left out: the seat has no laws.vTable -/

/- left out: the seat has no laws.vCnf -/

/-- A copy of a row of numbers. -/
theorem cloneA_any (A : Option Addr) (cap : Nat) (xs : List Int) (w : World) (hx : IntsAt w A xs) (hl : xs.length ≤ 1000000) :
    Calls Try.prog 38 #[.slice A xs.length cap] w (OneI w xs) := by
  rcases Nat.eq_zero_or_pos xs.length with h0 | h0
  · obtain rfl : xs = [] := List.length_eq_zero_iff.1 h0
    cases A with
    | none =>
      refine (Try.slices_Clone_int_nil 0 cap w).mono ?_
      rintro e w' ⟨rfl, rfl⟩
      exact ⟨none, 0, rfl, (Sp.start _).own_nil _ _⟩
    | some a =>
      refine (Try.slices_Clone_int_zero a cap w).mono ?_
      rintro e w' ⟨v, rfl, ho, -, hb⟩
      have S := (Sp.start w).own_new hb (owns_zero ho) (owns_ge ho)
      obtain ⟨B, c, rfl⟩ := own_slice ho
      exact ⟨B, c, rfl, S⟩
  · obtain ⟨b, off, rfl, -⟩ := hx.at_ 0 h0
    have h := Try.slices_Clone_int b off xs.length cap xs w (Nat.le_refl _) (by omega) fun j hj => by
      obtain ⟨b', off', e, h1⟩ := hx.at_ j hj
      cases e
      rw [h1, List.getD_eq_getElem?_getD, List.getElem?_eq_getElem hj]; rfl
    refine h.mono ?_
    rintro e w' ⟨v, rfl, ho, -, hb⟩
    rw [List.take_length] at ho
    have S := (Sp.start w).own_new hb (owns_zero ho) (owns_ge ho)
    obtain ⟨B, c, rfl⟩ := own_slice ho
    exact ⟨B, c, rfl, S⟩

/- left out: the seat has no spec.l1Own -/
end Go.Proofs.Yteabiokhbaekpaa

/- Contracts: lists of rows copied, on both sides. -/
namespace Go.Proofs.Yteabiokhbaekpaa
open Go.RowKit Go.Shelf

/-- Rows of the call's own. -/
def RowsP (w : World) (xss : List (List Int)) (e : Ending) (w' : World) : Prop := ∃ B cap cs, e = .returned (.slice B xss.length cap) ∧ Sp w w' [Rows Ty.int 26 (.slice B xss.length cap) cs xss]
theorem take_snoc {α : Type} {l : List α} {k : Nat} (h : k < l.length) : l.take k ++ [l[k]] = l.take (k + 1) := (List.take_succ_eq_append_getElem h).symm

/- left out: the seat has no impl.cloneLists -/
end Go.Proofs.Yteabiokhbaekpaa

/- Contracts: two lists of rows put together, in the library. -/
namespace Go.Proofs.Yteabiokhbaekpaa
open Go.RowKit Go.Shelf

/- left out: the seat has no slices.Grow[[][]int,[]int] -/

/- left out: the seat has no slices.Grow[[][]int,[]int] -/

def szK (n1 n2 : Nat) : Nat → Nat
  | 0 => 0
  | 1 => n1
  | _ => n1 + n2
def catK (us1 us2 : List Value) : Nat → List Value
  | 0 => []
  | 1 => us1
  | _ => us1 ++ us2

/- left out: the seat has no slices.Concat[[][]int,[]int] -/
end Go.Proofs.Yteabiokhbaekpaa

/- Contracts: clauses joined and resolved in the reference, told weakly. -/
namespace Go.Proofs.Yteabiokhbaekpaa
open Go.RowKit

/-- A row of its own within bounds, and a flag. -/
def JoinW (n : Nat) (w : World) (e : Ending) (w' : World) : Prop :=
  ∃ v c q, e = .returned (.tuple #[v, .bool q]) ∧ w'.ownsRow w.heap.size 3 1 v c.length (c.map (.int .i64)) ∧ c.length ≤ n ∧ Within 1000 c ∧ Below w.heap.size w w'
theorem Sp.drop2w {w0 w : World} {p q : Asn} {ps : List Asn} (h : Sp w0 w (p :: q :: ps)) : Sp w0 w (p :: ps) := h.swap.tail

/- left out: the seat has no spec.l2Join -/

/- left out: the seat has no spec.l2Resolve -/
end Go.Proofs.Yteabiokhbaekpaa

/- Contract: clauses joined, in the reference, to the word. -/
namespace Go.Proofs.Yteabiokhbaekpaa
open Go.RowKit

theorem joinS_no {out b : List Int} {l : Int} (h : hasI out (-l) = true) : joinS out (l :: b) = none := by unfold joinS; rw [if_pos h]
theorem joinS_has {out b : List Int} {l : Int} (h : hasI out (-l) = false) (h2 : hasI out l = true) : joinS out (l :: b) = joinS out b := by rw [joinS, if_neg (by rw [h]; simp), if_pos h2]
theorem joinS_put {out b : List Int} {l : Int} (h : hasI out (-l) = false) (h2 : hasI out l = false) : joinS out (l :: b) = joinS (putB out l) b := by rw [joinS, if_neg (by rw [h]; simp), if_neg (by rw [h2]; simp)]

/- left out: the seat has no spec.l2Join -/

end Go.Proofs.Yteabiokhbaekpaa

/- Contracts: two rows of numbers put together, in the library; a variable left out of a clause, in the program. -/
namespace Go.Proofs.Yteabiokhbaekpaa
open Go.RowKit Go.Shelf

/- left out: the seat has no slices.Grow[[]int,int] -/

/- left out: the seat has no slices.Grow[[]int,int] -/

/- left out: the seat has no slices.Concat[[]int,int] -/

/- left out: the seat has no impl.withoutVar$1 -/

/- left out: the seat has no impl.withoutVar -/
end Go.Proofs.Yteabiokhbaekpaa

/- Contracts: total assignments and the value of a clause, in the reference. -/
namespace Go.Proofs.Yteabiokhbaekpaa
open Go.RowKit

/-- The total assignment of bits. -/
def totI (b i : Nat) : Int := if b.testBit i then (i : Int) + 1 else -((i : Int) + 1)
def totB (n b : Nat) : List Int := (List.range n).map (totI b)
theorem tot_len (n b : Nat) : (totB n b).length = n := by simp [totB]
theorem tot_snoc (n b : Nat) : totB (n + 1) b = totB n b ++ [totI b n] := by simp [totB, List.range_succ]
theorem tot_ok (n b : Nat) (hn : n ≤ 1000) : ∀ x ∈ totB n b, I64 x := by
  intro x hx
  obtain ⟨i, hi, rfl⟩ := List.mem_map.1 hx
  have := List.mem_range.1 hi
  unfold totI I64
  split <;> omega
theorem has_tot {n b : Nat} {l : Int} (h0 : l ≠ 0) (h1 : -(n : Int) ≤ l) (h2 : l ≤ n) : hasI (totB n b) l = litT b l := by
  unfold hasI litT
  rw [Bool.eq_iff_iff, List.contains_iff_mem]
  constructor
  · intro hm
    obtain ⟨i, hi, he⟩ := List.mem_map.1 hm
    unfold totI at he
    by_cases ht : b.testBit i = true
    · rw [if_pos ht] at he
      rw [show l.natAbs - 1 = i by omega, ht, decide_eq_true (by omega)]; rfl
    · rw [if_neg ht] at he
      rw [show l.natAbs - 1 = i by omega, Bool.eq_false_iff.2 ht, decide_eq_false (by omega)]; rfl
  · intro hb
    refine List.mem_map.2 ⟨l.natAbs - 1, List.mem_range.2 (by omega), ?_⟩
    unfold totI
    by_cases hp : 0 < l
    · rw [decide_eq_true hp] at hb
      have : b.testBit (l.natAbs - 1) = true := by simpa using hb
      rw [if_pos this]; omega
    · rw [decide_eq_false hp] at hb
      have : b.testBit (l.natAbs - 1) = false := by simpa using hb
      rw [this, if_neg (by simp)]; omega

/- left out: the seat has no spec.l3Total -/

/-- What l3Value tells. -/
def valP (c a : List Int) (e : Ending) : Prop := ∃ z : Int, e = .returned (.int .i64 z) ∧ (z == 1) = c.any (hasI a)
/- left out: the seat has no spec.l3Value -/
end Go.Proofs.Yteabiokhbaekpaa

/- Contract: total assignments in the program. -/
namespace Go.Proofs.Yteabiokhbaekpaa
open Go.RowKit

/- left out: the seat has no impl.total -/
end Go.Proofs.Yteabiokhbaekpaa

/- Contract: the backbone of a Cnf, in the program. -/
namespace Go.Proofs.Yteabiokhbaekpaa
open Go.RowKit

/-- The literals of a model that are true for all models up to k. -/
def keepK (n : Nat) (xss : List (List Int)) (f k : Nat) : List Int := (totB n f).filter fun l => (mods (modT xss) k).all fun b => litT b l
theorem mods_no {p : Nat → Bool} {k : Nat} (h : p k = false) : mods p (k + 1) = mods p k := by simp [mods, List.range_succ, List.filter_append, h]
theorem mods_yes {p : Nat → Bool} {k : Nat} (h : p k = true) : mods p (k + 1) = mods p k ++ [k] := by simp [mods, List.range_succ, List.filter_append, h]
theorem keep_no {n f k : Nat} {xss : List (List Int)} (h : modT xss k = false) : keepK n xss f (k + 1) = keepK n xss f k := by unfold keepK; rw [mods_no h]
theorem keep_yes {n f k : Nat} {xss : List (List Int)} (h : modT xss k = true) : keepK n xss f (k + 1) = (keepK n xss f k).filter fun l => !(!litT k l) := by
  unfold keepK
  rw [mods_yes h, List.filter_filter]
  congr 1
  funext l
  rw [List.all_append, Bool.and_comm]
  simp
theorem keep_zero (n f : Nat) (xss : List (List Int)) : keepK n xss f 0 = totB n f := by
  unfold keepK
  rw [List.filter_eq_self]
  intro l _
  rfl
theorem keep_len (n : Nat) (xss : List (List Int)) (f k : Nat) : (keepK n xss f k).length ≤ n := Nat.le_trans (List.length_filter_le _ _) (by rw [tot_len]; exact Nat.le_refl _)
theorem tot_lit {n f : Nat} (hn : n ≤ 12) : ∀ l ∈ totB n f, LitS l := by
  intro l hl
  obtain ⟨i, hi, rfl⟩ := List.mem_map.1 hl
  have := List.mem_range.1 hi
  unfold totI LitS
  split <;> omega
theorem keep_lit {n f k : Nat} (hn : n ≤ 12) {xss : List (List Int)} : ∀ l ∈ keepK n xss f k, LitS l := fun l hl => tot_lit hn l (List.mem_filter.1 hl).1
theorem keep_bone_k (n : Nat) (xss : List (List Int)) (f : Nat) (hf : f ∈ mods (modT xss) (2 ^ n)) : ∀ k, (totB k f).filter (fun l => (mods (modT xss) (2 ^ n)).all fun b => litT b l) = boneTo n xss k
  | 0 => rfl
  | k + 1 => by
    rw [tot_snoc, List.filter_append, keep_bone_k n xss f hf k, bone_next]
    congr 1
    have himp : ∀ x, impB n xss [x] = (mods (modT xss) (2 ^ n)).all fun b => litT b x := fun x => by
      rw [imp_mods]
      congr 1
      funext b
      exact cl_one x b
    rw [himp, himp]
    unfold totI
    have hp : ∀ (q : Bool), f.testBit k = q → ((mods (modT xss) (2 ^ n)).all fun b => litT b ((k : Int) + 1)) = true → q = true := fun q hq h => by
      have := List.all_eq_true.1 h f hf
      rw [lit_pos, hq] at this
      exact this
    have hm : ∀ (q : Bool), f.testBit k = q → ((mods (modT xss) (2 ^ n)).all fun b => litT b (-((k : Int) + 1))) = true → q = false := fun q hq h => by
      have := List.all_eq_true.1 h f hf
      rw [lit_neg, hq] at this
      simpa using this
    cases hq : f.testBit k
    · have h1 : ((mods (modT xss) (2 ^ n)).all fun b => litT b ((k : Int) + 1)) = false := by
        cases h : ((mods (modT xss) (2 ^ n)).all fun b => litT b ((k : Int) + 1))
        · rfl
        · exact absurd (hp _ hq h) (by simp)
      rw [h1]
      cases h2 : ((mods (modT xss) (2 ^ n)).all fun b => litT b (-((k : Int) + 1)))
      · simp [List.filter, h2]
      · simp [List.filter, h2]
    · have h1 : ((mods (modT xss) (2 ^ n)).all fun b => litT b (-((k : Int) + 1))) = false := by
        cases h : ((mods (modT xss) (2 ^ n)).all fun b => litT b (-((k : Int) + 1)))
        · rfl
        · exact absurd (hm _ hq h) (by simp)
      rw [h1]
      cases h2 : ((mods (modT xss) (2 ^ n)).all fun b => litT b ((k : Int) + 1))
      · simp [List.filter, h2]
      · simp [List.filter, h2]
theorem keep_bone {n : Nat} {xss : List (List Int)} {f : Nat} (h1 : f < 2 ^ n) (h2 : modT xss f = true) : keepK n xss f (2 ^ n) = boneTo n xss n :=
  keep_bone_k n xss f (List.mem_filter.2 ⟨List.mem_range.2 h1, h2⟩) n
theorem idx_model {p : Nat → Bool} {N : Nat} (h : (List.range N).any p = true) : ∃ f : Nat, idxP p (List.range N) = (f : Int) ∧ f < N ∧ p f = true := by
  have hlt : (List.range N).findIdx p < (List.range N).length := List.findIdx_lt_length_of_exists (by simpa using List.any_eq_true.1 h)
  refine ⟨(List.range N).findIdx p, by unfold idxP; rw [if_pos h], by simpa using hlt, ?_⟩
  have := List.findIdx_getElem (w := hlt)
  simpa using this

/- left out: the seat has no impl.BackboneOf$1$1 -/

/- left out: the seat has no impl.BackboneOf$1 -/

/-- What is left of the first model's literals before k. -/
def BoneP (w : World) (n : Nat) (xss : List (List Int)) (f o m fb : Nat) (fcs : Array Value) (k : Nat) (V : World) : Prop :=
  ∃ (ts : List Int) (B : Option Addr) (cc : Nat), ts = keepK n xss f k ∧ (∀ g, (Value.slice B ts.length cc).ownBlock = some g → g ≠ m) ∧
    Sp w V [Own 3 1 (.slice B ts.length cc) ts.length (ts.map (.int .i64)), Box o 26 #[.slice B ts.length cc], Box fb 31 fcs]

/- left out: the seat has no impl.BackboneOf -/
end Go.Proofs.Yteabiokhbaekpaa

/- Contracts: inequalities over bits, in the program. -/
namespace Go.Proofs.Yteabiokhbaekpaa
open Go.RowKit

theorem within_at {x a b : Int} {q : Bool} (h : inB x a b = q) (w : World) : Calls Try.prog 28 #[.int .i64 x, .int .i64 a, .int .i64 b] w fun e w' => e = .returned (.bool q) ∧ w = w' := h ▸ within_any x a b w
theorem varsOk_at {x : Int} {q : Bool} (h : inB x 0 12 = q) (w : World) : Calls Try.prog 46 #[.int .i64 x] w fun e w' => e = .returned (.bool q) ∧ w = w' := h ▸ varsOk_any x w
/- left out: the seat has no impl.IsInequality$1 -/

/- left out: the seat has no impl.IsInequality -/

/- left out: the seat has no impl.planeHolds -/
end Go.Proofs.Yteabiokhbaekpaa

/- Contracts: total assignments and their bits, on both sides. -/
namespace Go.Proofs.Yteabiokhbaekpaa
open Go.RowKit

/-- A row of the call's own, and whether it is told. -/
def OwnAns (w : World) (ok : Bool) (zs : List Int) (e : Ending) (w' : World) : Prop := ∃ D dc, e = .returned (.tuple #[.slice D zs.length dc, .bool ok]) ∧ Sp w w' [Own 3 1 (.slice D zs.length dc) zs.length (zs.map (.int .i64))]
def totOk (vars bits : Int) : Bool := inB vars 0 12 && inB bits 0 (((2 ^ vars.toNat : Nat) : Int) - 1)
def totL (vars bits : Int) : List Int := if totOk vars bits then totB vars.toNat bits.toNat else []
theorem totOk_parts {vars bits : Int} (h : totOk vars bits = true) : 0 ≤ vars ∧ vars ≤ 12 ∧ 0 ≤ bits ∧ bits.toNat < 2 ^ vars.toNat := by
  unfold totOk at h
  rw [Bool.and_eq_true, inB_true, inB_true] at h
  have h1 : 1 ≤ 2 ^ vars.toNat := Nat.one_le_two_pow
  omega

/- left out: the seat has no impl.TotalOf -/

/- left out: the seat has no spec.TotalOf -/
end Go.Proofs.Yteabiokhbaekpaa

/- Contracts: the collector of clauses, in the program. -/
namespace Go.Proofs.Yteabiokhbaekpaa
open Go.RowKit

/-- The collector: its clauses and its box. -/
abbrev FamP (fb : Nat) (vars : Int) (B : Option Addr) (c : Nat) (cs : List Value) (xss : List (List Int)) (ps : List Asn) : List Asn :=
  Rows Ty.int 26 (.slice B xss.length c) cs xss :: Box fb 46 #[.int .i64 vars, .slice B xss.length c] :: ps

set_option maxRecDepth 100000 in
set_option maxHeartbeats 4000000 in
theorem famAdd_any (fb : Nat) (vars : Int) (B : Option Addr) (c : Nat) (cs : List Value) (xss : List (List Int)) (ps : List Asn) (w0 W : World) (R : List Int) (A : Option Addr) (k cap : Nat) (hcl : ∀ W', Below W.heap.size W W' → Calls Try.prog 45 #[.slice A k cap] W' (OneI W' R)) (hI : ∀ x ∈ R, I64 x) (hm : xss.length ≤ 1000)
    (S : Sp w0 W (FamP fb vars B c cs xss ps)) :
    Calls Try.prog 26 #[.pointer (some ⟨fb, 0, none⟩), .slice A k cap] W fun e w' => e = .returned (.tuple #[]) ∧ ∃ B' c' cs', Sp w0 w' (FamP fb vars B' c' cs' (xss ++ [R]) ps) := by
  obtain ⟨i0, hi, hz0, hz1, hz2⟩ := info_parts infoRow
  replace hcl := Lib.hid hcl
  have c1 := S.cell (i := 1) rfl (o := 1) rfl
  have S1 := Lib.hid S.drew
  clear S
  replace hI := Lib.hid hI
  go_enter Try.func26, Try.ntmps26
  go_wp2_with fail
  refine wp_region_tail_lit (S := (fun w' => w'.cell? ⟨fb, 1, none⟩ = some (.slice B xss.length c))) 9 [false, false, false, false, false, false, false, false, false, false, false, false] (by kernel_rfl) (by kernel_rfl) (by kernel_rfl) ?_ ?_
  · exact c1
  intro hSc
  (refine walkT_take (i := 0) (v := ?_) rfl (by kernel_rfl) (by decide) (by kernel_rfl) (by kernel_rfl) (fun _ _ _ h => h) (Or.inl ⟨by rfl, ?_⟩) (by assumption) ?_; rotate_left; (focus (intro w hSw; (try dsimp only at hSw); go_simp; (try with_reducible rfl); done)); (try simp only [put_rules]))
  (refine walkT_take (i := 1) (v := ?_) rfl (by kernel_rfl) (by decide) (by kernel_rfl) (by kernel_rfl) (fun _ _ _ h => h) (Or.inl ⟨by rfl, ?_⟩) (by assumption) ?_; rotate_left; (focus (intro w hSw; (try dsimp only at hSw); go_simp; (try with_reducible rfl); done)); (try simp only [put_rules]))
  (refine walkT_take (i := 2) (v := ?_) rfl (by kernel_rfl) (by decide) (by kernel_rfl) (by kernel_rfl) (fun _ _ _ h => h) (Or.inl ⟨by rfl, ?_⟩) (by assumption) ?_; rotate_left; (focus (intro w hSw; (try dsimp only at hSw); go_simp; (try with_reducible rfl); done)); (try simp only [put_rules]))
  (refine walkT_take (i := 3) (v := ?_) rfl (by kernel_rfl) (by decide) (by kernel_rfl) (by kernel_rfl) (fun _ _ _ h => h) (Or.inl ⟨by rfl, ?_⟩) (by assumption) ?_; rotate_left; (focus (intro w hSw; (try dsimp only at hSw); go_simp; (try with_reducible rfl); done)); (try simp only [put_rules]))
  (refine walkT_take (i := 4) (v := ?_) rfl (by kernel_rfl) (by decide) (by kernel_rfl) (by kernel_rfl) (fun _ _ _ h => h) (Or.inl ⟨by rfl, ?_⟩) (by assumption) ?_; rotate_left; (focus (intro w hSw; (try dsimp only at hSw); go_simp; (try with_reducible rfl); done)); (try simp only [put_rules]))
  (refine walkT_take (i := 5) (v := ?_) rfl (by kernel_rfl) (by decide) (by kernel_rfl) (by kernel_rfl) (fun _ _ _ h => h) (Or.inl ⟨by rfl, ?_⟩) (by assumption) ?_; rotate_left; (focus (intro w hSw; (try dsimp only at hSw); go_simp; (try with_reducible rfl); done)); (try simp only [put_rules]))
  (refine walkT_ready (rs := [6]) (by kernel_rfl) (by simp) (by decide) ?_; refine AllT.cons rfl (fun K hK => ?_) AllT.nil)
  go_simp
  go_at_call 45
  refine (hcl.out _ (bdr (bb W))).mono ?_
  rintro e w2 ⟨D, dc, rfl, T⟩
  have S2 := Lib.hid (Sp.own_to_row (S1.out.seq T) hI.out)
  clear hcl S1 T c1
  go_wp2_with fail
  refine hK.out _ _ (S2.out.cell (i := 2) rfl (o := 1) rfl) (fun hS2 => ?_)
  clear hK hSc
  (try simp only [put_rules])
  (refine walkT_ready (rs := [7]) (by kernel_rfl) (by simp) (by decide) ?_; refine AllT.cons rfl (fun K hK => ?_) AllT.nil)
  go_simp
  have S3 := Lib.hid (S2.out.alloc_box #[.slice D R.length dc] 26)
  refine hK.out _ _ (S3.out.cell (i := 3) rfl (o := 1) rfl) (fun hS3 => ?_)
  clear hK hS2
  (try simp only [put_rules])
  (refine walkT_ready (rs := [8]) (by kernel_rfl) (by simp) (by decide) ?_; refine AllT.cons rfl (fun K hK => ?_) AllT.nil)
  (refine step_append_src rfl _ _ rfl Try.underlying24 hi hz0 hz1 hz2 rfl (by decide) _ xss.length _ rfl (S3.out.rows (i := 2) rfl) _ 1 1 [.slice D R.length dc] rfl (Src.one (S3.out.cell (i := 0) rfl (o := 0) rfl)) (by simp [Value.oneCell']) (by unfold maxLen; omega) (by omega) ?_; intro vE wE hownE hgE hatE)
  have S4 := S2.out.rows_push (bal (bb _) _) hownE hgE hatE
  obtain ⟨aE, cE, rfl⟩ := own_slice hownE
  refine hK.out _ _ (S4.cell (i := 1) rfl (o := 1) rfl) (fun _ => ?_)
  clear hK S2 S3 hownE hgE hatE
  have hfz := S4.frozen (i := 1) rfl 1
  have hc4 := S4.cell (i := 1) rfl (o := 1) rfl
  have S5 := Lib.hid (S4.store (i := 1) rfl 1 (.slice aE (xss.length + 1) cE))
  clear S4
  (try simp only [put_rules])
  (refine walkT_done (by kernel_rfl) ?_)
  simp only [List.drop_succ_cons, List.drop_zero]
  have hlen : xss.length + 1 = (xss ++ [R]).length := by simp
  have S6 : Hid (Sp w0 (wE.setCell ⟨fb, 1, none⟩ (.slice aE (xss.length + 1) cE)) (FamP fb vars aE cE (cs ++ [.slice D R.length dc]) (xss ++ [R]) ps)) := by
    unfold Hid FamP
    rw [← hlen]
    exact S5.out
  clear S5 hlen
  go_wp2_with fail
  exact bodyPost_end (v := .tuple #[]) (by simp [results, Try.results26, go_sem]) rfl ⟨rfl, aE, cE, _, S6.out⟩
end Go.Proofs.Yteabiokhbaekpaa

/- Contracts: a Cnf is given if it is valid, on both sides. -/
namespace Go.Proofs.Yteabiokhbaekpaa
open Go.RowKit

def giveV (vars : Int) (xss : List (List Int)) : Int := if goodB vars xss then vars else 0
def giveL (vars : Int) (xss : List (List Int)) : List (List Int) := if goodB vars xss then xss else []
theorem give_yes {vars : Int} {xss : List (List Int)} (h : goodB vars xss = true) : giveV vars xss = vars ∧ giveL vars xss = xss := by unfold giveV giveL; rw [if_pos h, if_pos h]; exact ⟨rfl, rfl⟩
theorem give_no {vars : Int} {xss : List (List Int)} (h : goodB vars xss = false) : giveV vars xss = 0 ∧ giveL vars xss = [] := by unfold giveV giveL; rw [h]; exact ⟨rfl, rfl⟩
/-- A Cnf and whether it is told; it can be read. -/
def CnfR (w : World) (va : Int) (ys : List (List Int)) (ok : Bool) (e : Ending) (w' : World) : Prop :=
  ∃ B cc F, e = .returned (.tuple #[.agg #[.int .i64 va, .slice B ys.length cc], .bool ok]) ∧ (Ty.slice Ty.int).row false w' (.slice B ys.length cc) ys F ∧ Below w.heap.size w w'
/-- The same Cnf, or nothing. -/
def GiveP (w : World) (vars : Int) (B : Option Addr) (c : Nat) (xss : List (List Int)) (e : Ending) (w' : World) : Prop :=
  ∃ va A' n' c', e = .returned (.tuple #[.agg #[.int .i64 va, .slice A' n' c'], .bool (goodB vars xss)]) ∧ Below w.heap.size w w' ∧ (goodB vars xss = true → va = vars ∧ A' = B ∧ n' = xss.length ∧ c' = c) ∧ (goodB vars xss = false → va = 0 ∧ A' = none ∧ n' = 0 ∧ c' = 0)
theorem CnfR.of {w wF : World} {vars va : Int} {A' : Option Addr} {n' c' : Nat} {xss : List (List Int)} {B : Option Addr} {c : Nat} {cs : List Value} {t : TypeId} {ps : List Asn} (SF : Sp w wF (Rows Ty.int t (.slice B xss.length c) cs xss :: ps))
    (h1 : goodB vars xss = true → va = vars ∧ A' = B ∧ n' = xss.length ∧ c' = c) (h2 : goodB vars xss = false → va = 0 ∧ A' = none ∧ n' = 0 ∧ c' = 0) :
    CnfR w (giveV vars xss) (giveL vars xss) (goodB vars xss) (.returned (.tuple #[.agg #[.int .i64 va, .slice A' n' c'], .bool (goodB vars xss)])) wF := by
  cases hg : goodB vars xss with
  | false =>
    obtain ⟨rfl, rfl, rfl, rfl⟩ := h2 hg
    rw [(give_no hg).1, (give_no hg).2]
    exact ⟨none, 0, [], rfl, Ty.row_nil _ _ _ _ _ (by decide), SF.below⟩
  | true =>
    obtain ⟨rfl, rfl, rfl, rfl⟩ := h1 hg
    rw [(give_yes hg).1, (give_yes hg).2]
    obtain ⟨F, hr, -, -⟩ := SF.rows_done (i := 0) rfl
    exact ⟨_, _, F, rfl, Ty.row_down hr, SF.below⟩
theorem CnfR.from {w w1 : World} {va : Int} {ys : List (List Int)} {ok : Bool} {e : Ending} {w' : World} (hb : Below w.heap.size w w1) (h : CnfR w1 va ys ok e w') : CnfR w va ys ok e w' := by
  obtain ⟨B, cc, F, rfl, hr, hb2⟩ := h
  exact ⟨B, cc, F, rfl, hr, hb.trans (hb2.mono hb.size)⟩

set_option maxRecDepth 100000 in
set_option maxHeartbeats 4000000 in
theorem famCnf_any (fb : Nat) (vars : Int) (B : Option Addr) (c : Nat) (xss : List (List Int)) (F : List Nat) (W : World) (c0 : W.cell? ⟨fb, 0, none⟩ = some (.int .i64 vars)) (c1 : W.cell? ⟨fb, 1, none⟩ = some (.slice B xss.length c)) (hx : (Ty.slice Ty.int).row false W (.slice B xss.length c) xss F) :
    Calls Try.prog 27 #[.pointer (some ⟨fb, 0, none⟩)] W (GiveP W vars B c xss) := by
  unfold GiveP
  have Sa := (Sp.start W).alloc_box #[.int .i64 0, .slice none 0 0] 31
  have n0 := cell_below c0 Sa.below
  have n1 := cell_below c1 Sa.below
  have Sb := (Sa.drew).alloc_box #[.int .i64 0, .slice none 0 0] 31
  have m0 := cell_below c0 Sb.below
  have m1 := cell_below c1 Sb.below
  have S0 := (Sa.alloc_box #[.int .i64 vars, .slice B xss.length c] 31).drew
  simp only [World.size_alloc] at S0
  have hcall := Lib.hid (implIsCnf_any vars _ xss F _ (Ty.row_below hx S0.below (Ty.row_lt hx)))
  have a0 := S0.cell (i := 0) rfl (o := 0) rfl
  have a1 := S0.cell (i := 0) rfl (o := 1) rfl
  replace S0 := Lib.hid S0
  clear Sa Sb
  clear hx
  cases hg : goodB vars xss with
  | false =>
    rw [hg] at hcall
    clear hg
    go_enter Try.func27, Try.ntmps27
    go_wp2_with fail
    refine wp_region_tail_lit (S := (fun w' => w'.cell? ⟨fb, 0, none⟩ = some (.int .i64 vars) ∧ w'.cell? ⟨fb, 1, none⟩ = some (.slice B xss.length c))) 10 [false, false, false, false, false, false, false, false, false, false, false] (by kernel_rfl) (by kernel_rfl) (by kernel_rfl) ?_ ?_
    · exact ⟨n0, n1⟩
    intro hSc
    (refine walkT_take (i := 0) (v := ?_) rfl (by kernel_rfl) (by decide) (by kernel_rfl) (by kernel_rfl) (fun _ _ _ h => h) (Or.inl ⟨by rfl, ?_⟩) (by assumption) ?_; rotate_left; (focus (intro w hSw; (try dsimp only at hSw); go_simp; (try with_reducible rfl); done)); (try simp only [put_rules]))
    (refine walkT_take (i := 1) (v := ?_) rfl (by kernel_rfl) (by decide) (by kernel_rfl) (by kernel_rfl) (fun _ _ _ h => h) (Or.inl ⟨by rfl, ?_⟩) (by assumption) ?_; rotate_left; (focus (intro w hSw; (try dsimp only at hSw); go_simp; (try with_reducible rfl); done)); (try simp only [put_rules]))
    (refine walkT_take (i := 2) (v := ?_) rfl (by kernel_rfl) (by decide) (by kernel_rfl) (by kernel_rfl) (fun _ _ _ h => h) (Or.inl ⟨by rfl, ?_⟩) (by assumption) ?_; rotate_left; (focus (intro w hSw; (try dsimp only at hSw); go_simp; (try with_reducible rfl); done)); (try simp only [put_rules]))
    (refine walkT_take (i := 3) (v := ?_) rfl (by kernel_rfl) (by decide) (by kernel_rfl) (by kernel_rfl) (fun _ _ _ h => h) (Or.inl ⟨by rfl, ?_⟩) (by assumption) ?_; rotate_left; (focus (intro w hSw; (try dsimp only at hSw); go_simp; (try with_reducible rfl); done)); (try simp only [put_rules]))
    (refine walkT_take (i := 4) (v := ?_) rfl (by kernel_rfl) (by decide) (by kernel_rfl) (by kernel_rfl) (fun _ _ _ h => h) (Or.inl ⟨by rfl, ?_⟩) (by assumption) ?_; rotate_left; (focus (intro w hSw; (try dsimp only at hSw); go_simp; (try with_reducible rfl); done)); (try simp only [put_rules]))
    (refine walkT_take (i := 5) (v := ?_) rfl (by kernel_rfl) (by decide) (by kernel_rfl) (by kernel_rfl) (fun _ _ _ h => h) (Or.inl ⟨by rfl, ?_⟩) (by assumption) ?_; rotate_left; (focus (intro w hSw; (try dsimp only at hSw); go_simp; (try with_reducible rfl); done)); (try simp only [put_rules]))
    (refine walkT_take (i := 6) (v := ?_) rfl (by kernel_rfl) (by decide) (by kernel_rfl) (by kernel_rfl) (fun _ _ _ h => h) (Or.inl ⟨by rfl, ?_⟩) (by assumption) ?_; rotate_left; (focus (intro w hSw; (try dsimp only at hSw); go_simp; (try with_reducible rfl); done)); (try simp only [put_rules]))
    (refine walkT_take (i := 7) (v := ?_) rfl (by kernel_rfl) (by decide) (by kernel_rfl) (by kernel_rfl) (fun _ _ _ h => h) (Or.inl ⟨by rfl, ?_⟩) (by assumption) ?_; rotate_left; (focus (intro w hSw; (try dsimp only at hSw); go_simp; (try with_reducible rfl); done)); (try simp only [put_rules]))
    (refine walkT_take (i := 8) (v := ?_) rfl (by kernel_rfl) (by decide) (by kernel_rfl) (by kernel_rfl) (fun _ _ _ h => h) (Or.inl ⟨by rfl, ?_⟩) (by assumption) ?_; rotate_left; (focus (intro w hSw; (try dsimp only at hSw); go_simp; (try with_reducible rfl); done)); (try simp only [put_rules]))
    (refine walkT_ready (rs := [9]) (by kernel_rfl) (by simp) (by decide) ?_; refine AllT.cons rfl (fun K hK => ?_) AllT.nil)
    go_simp
    refine hK.out _ _ ⟨m0, m1⟩ (fun _ => ?_)
    clear hK hSc n0 n1 m0 m1 c0 c1
    (try simp only [put_rules])
    (refine walkT_done (by kernel_rfl) ?_)
    simp only [List.drop_succ_cons, List.drop_zero]
    go_wp2_with fail
    refine hcall.out.mono ?_
    rintro e w1 ⟨rfl, hb1⟩
    have S1 := S0.out.grow hb1
    clear hcall S0 hb1 a0 a1
    have r0 := S1.cell (i := 1) rfl (o := 0) rfl
    have r1 := S1.cell (i := 1) rfl (o := 1) rfl
    have f0 := S1.frozen (i := 1) rfl 0
    have f1 := S1.frozen (i := 1) rfl 1
    have SF := (S1.store (i := 1) rfl 0 (.int .i64 0)).store (i := 1) rfl 1 (.slice none 0 0)
    have j0 := SF.cell (i := 1) rfl (o := 0) rfl
    have j1 := SF.cell (i := 1) rfl (o := 1) rfl
    have hB := Lib.hid SF.below
    clear S1 SF
    go_wp2_with fail
    exact bodyPost_ret (v := .tuple #[.agg #[.int .i64 0, .slice none 0 0], .bool false]) (by simp [results, Try.results27, go_sem, j0, j1]) rfl ⟨0, none, 0, 0, rfl, hB.out, (fun h => by cases h), (fun _ => ⟨rfl, rfl, rfl, rfl⟩)⟩
  | true =>
    rw [hg] at hcall
    clear hg
    go_enter Try.func27, Try.ntmps27
    go_wp2_with fail
    refine wp_region_tail_lit (S := (fun w' => w'.cell? ⟨fb, 0, none⟩ = some (.int .i64 vars) ∧ w'.cell? ⟨fb, 1, none⟩ = some (.slice B xss.length c))) 10 [false, false, false, false, false, false, false, false, false, false, false] (by kernel_rfl) (by kernel_rfl) (by kernel_rfl) ?_ ?_
    · exact ⟨n0, n1⟩
    intro hSc
    (refine walkT_take (i := 0) (v := ?_) rfl (by kernel_rfl) (by decide) (by kernel_rfl) (by kernel_rfl) (fun _ _ _ h => h) (Or.inl ⟨by rfl, ?_⟩) (by assumption) ?_; rotate_left; (focus (intro w hSw; (try dsimp only at hSw); go_simp; (try with_reducible rfl); done)); (try simp only [put_rules]))
    (refine walkT_take (i := 1) (v := ?_) rfl (by kernel_rfl) (by decide) (by kernel_rfl) (by kernel_rfl) (fun _ _ _ h => h) (Or.inl ⟨by rfl, ?_⟩) (by assumption) ?_; rotate_left; (focus (intro w hSw; (try dsimp only at hSw); go_simp; (try with_reducible rfl); done)); (try simp only [put_rules]))
    (refine walkT_take (i := 2) (v := ?_) rfl (by kernel_rfl) (by decide) (by kernel_rfl) (by kernel_rfl) (fun _ _ _ h => h) (Or.inl ⟨by rfl, ?_⟩) (by assumption) ?_; rotate_left; (focus (intro w hSw; (try dsimp only at hSw); go_simp; (try with_reducible rfl); done)); (try simp only [put_rules]))
    (refine walkT_take (i := 3) (v := ?_) rfl (by kernel_rfl) (by decide) (by kernel_rfl) (by kernel_rfl) (fun _ _ _ h => h) (Or.inl ⟨by rfl, ?_⟩) (by assumption) ?_; rotate_left; (focus (intro w hSw; (try dsimp only at hSw); go_simp; (try with_reducible rfl); done)); (try simp only [put_rules]))
    (refine walkT_take (i := 4) (v := ?_) rfl (by kernel_rfl) (by decide) (by kernel_rfl) (by kernel_rfl) (fun _ _ _ h => h) (Or.inl ⟨by rfl, ?_⟩) (by assumption) ?_; rotate_left; (focus (intro w hSw; (try dsimp only at hSw); go_simp; (try with_reducible rfl); done)); (try simp only [put_rules]))
    (refine walkT_take (i := 5) (v := ?_) rfl (by kernel_rfl) (by decide) (by kernel_rfl) (by kernel_rfl) (fun _ _ _ h => h) (Or.inl ⟨by rfl, ?_⟩) (by assumption) ?_; rotate_left; (focus (intro w hSw; (try dsimp only at hSw); go_simp; (try with_reducible rfl); done)); (try simp only [put_rules]))
    (refine walkT_take (i := 6) (v := ?_) rfl (by kernel_rfl) (by decide) (by kernel_rfl) (by kernel_rfl) (fun _ _ _ h => h) (Or.inl ⟨by rfl, ?_⟩) (by assumption) ?_; rotate_left; (focus (intro w hSw; (try dsimp only at hSw); go_simp; (try with_reducible rfl); done)); (try simp only [put_rules]))
    (refine walkT_take (i := 7) (v := ?_) rfl (by kernel_rfl) (by decide) (by kernel_rfl) (by kernel_rfl) (fun _ _ _ h => h) (Or.inl ⟨by rfl, ?_⟩) (by assumption) ?_; rotate_left; (focus (intro w hSw; (try dsimp only at hSw); go_simp; (try with_reducible rfl); done)); (try simp only [put_rules]))
    (refine walkT_take (i := 8) (v := ?_) rfl (by kernel_rfl) (by decide) (by kernel_rfl) (by kernel_rfl) (fun _ _ _ h => h) (Or.inl ⟨by rfl, ?_⟩) (by assumption) ?_; rotate_left; (focus (intro w hSw; (try dsimp only at hSw); go_simp; (try with_reducible rfl); done)); (try simp only [put_rules]))
    (refine walkT_ready (rs := [9]) (by kernel_rfl) (by simp) (by decide) ?_; refine AllT.cons rfl (fun K hK => ?_) AllT.nil)
    go_simp
    refine hK.out _ _ ⟨m0, m1⟩ (fun _ => ?_)
    clear hK hSc n0 n1 m0 m1 c0 c1
    (try simp only [put_rules])
    (refine walkT_done (by kernel_rfl) ?_)
    simp only [List.drop_succ_cons, List.drop_zero]
    go_wp2_with fail
    refine hcall.out.mono ?_
    rintro e w1 ⟨rfl, hb1⟩
    have S1 := S0.out.grow hb1
    clear hcall S0 hb1 a0 a1
    have g0 := S1.cell (i := 0) rfl (o := 0) rfl
    have g1 := S1.cell (i := 0) rfl (o := 1) rfl
    have r0 := S1.cell (i := 1) rfl (o := 0) rfl
    have r1 := S1.cell (i := 1) rfl (o := 1) rfl
    have f0 := S1.frozen (i := 1) rfl 0
    have f1 := S1.frozen (i := 1) rfl 1
    have SF := (S1.store (i := 1) rfl 0 (.int .i64 vars)).store (i := 1) rfl 1 (.slice B xss.length c)
    have j0 := SF.cell (i := 1) rfl (o := 0) rfl
    have j1 := SF.cell (i := 1) rfl (o := 1) rfl
    have hB := Lib.hid SF.below
    clear S1 SF
    go_wp2_with fail
    exact bodyPost_ret (v := .tuple #[.agg #[.int .i64 vars, .slice B xss.length c], .bool true]) (by simp [results, Try.results27, go_sem, j0, j1]) rfl ⟨vars, B, xss.length, c, rfl, hB.out, (fun _ => ⟨rfl, rfl, rfl, rfl⟩), (fun h => by cases h)⟩

/- left out: the seat has no spec.l4Give -/

/- left out: the seat has no spec.l4New -/
end Go.Proofs.Yteabiokhbaekpaa

/- Plain: choices as clauses; what at most and at least have for clauses. -/
namespace Go.Proofs.Yteabiokhbaekpaa
open Go.RowKit

theorem clauseR_self {c : List Int} (h : GoodS c) : clauseR c = some c := by
  obtain ⟨h1, h2⟩ := clauseR_some (zs := c) h.mem (fun x hx hy => h.clash hx hy)
  rw [h1, GoodS.ext h2 h (fun x => cptL_mem)]
/-- A choice with a sign. -/
def sgC (s : Int) (c : List Int) : List Int := c.map fun x => s * x
theorem goL_mem {n d : Nat} {c : List Int} (h : c ∈ goL (n + 1) [] d 1) : ∃ l : List Nat, c = ofN l ∧ l.Pairwise (· < ·) ∧ (∀ i ∈ l, 1 ≤ i ∧ i < n + 1) ∧ l.length = d := by
  unfold goL at h
  obtain ⟨l, hl, rfl⟩ := List.mem_map.1 h
  obtain ⟨h1, h2, h3⟩ := combs_asc d 1 l hl
  exact ⟨l, by simp, h1, h2, h3⟩
theorem goL_good {n d : Nat} (hn : n ≤ 12) {s : Int} (hs : s = 1 ∨ s = -1) {c : List Int} (h : c ∈ goL (n + 1) [] d 1) : GoodS (sgC s c) ∧ c.length = d ∧ d ≤ 12 := by
  obtain ⟨l, rfl, h1, h2, h3⟩ := goL_mem h
  have hlit : ∀ i : Nat, 1 ≤ i ∧ i < n + 1 → LitS (s * (i : Int)) ∧ absV (s * (i : Int)) = (i : Int) := fun i hi => by
    have hL : LitS (s * (i : Int)) := by unfold LitS; rcases hs with rfl | rfl <;> omega
    refine ⟨hL, ?_⟩
    rw [hL.abs]
    rcases hs with rfl | rfl
    · rw [if_neg (by omega)]; omega
    · rw [if_pos (by omega)]; omega
  refine ⟨⟨?_, ?_⟩, by simp [ofN]; exact h3, ?_⟩
  · intro x hx
    obtain ⟨y, hy, rfl⟩ := List.mem_map.1 hx
    obtain ⟨i, hi, rfl⟩ := List.mem_map.1 (show y ∈ l.map (fun i : Nat => (i : Int)) from hy)
    exact (hlit i (h2 i hi)).1
  · show ((ofN l).map fun x => s * x).Pairwise AscS
    rw [List.pairwise_map, show ofN l = l.map (fun i : Nat => (i : Int)) from rfl, List.pairwise_map]
    refine List.Pairwise.imp_of_mem ?_ h1
    intro a b ha hb hab
    unfold AscS
    rw [(hlit a (h2 a ha)).2, (hlit b (h2 b hb)).2]
    omega
  · rw [← h3]
    have : l.length ≤ n := by
      have hsub : l.Nodup := h1.imp (fun h => Nat.ne_of_lt h)
      have := List.Nodup.length_le_of_subset hsub (l₂ := (List.range' 1 n)) (fun i hi => by rw [List.mem_range'_1]; have := h2 i hi; omega)
      simpa using this
    omega
theorem sgC_one (c : List Int) : sgC 1 c = c := by unfold sgC; simp
theorem sgC_neg (c : List Int) : sgC (-1) c = c.map fun x => -x := by unfold sgC; apply List.map_congr_left; intro x _; omega
/-- The choices, up to one more than the most clauses. -/
def chL (n d : Nat) : List (List Int) := capL 60 (goL (n + 1) [] d 1)
def mostL (n k : Nat) : List (List Int) := (chL n (k + 1)).map (sgC (-1))
def leastL (n k : Nat) : List (List Int) := if k = 0 then [] else chL n (n + 1 - k)
theorem chL_len (n d : Nat) : (chL n d).length ≤ 61 := capL_len _
theorem chL_good {n d : Nat} (hn : n ≤ 12) {s : Int} (hs : s = 1 ∨ s = -1) {c : List Int} (h : c ∈ chL n d) : GoodS (sgC s c) ∧ c.length = d ∧ d ≤ 12 := goL_good hn hs (capL_mem h)
theorem chL_zero (n : Nat) : chL n 0 = [[]] := by unfold chL; rw [goL_zero]; rfl
end Go.Proofs.Yteabiokhbaekpaa
