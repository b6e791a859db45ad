/- Lemmas and contracts for a law, put together out of several texts: CtA CtB RsA SdA SdB OwnS SdC SdD SdE SdF SdG SdH SdI CurR SdJ SdK SdL MdQ AsA AsB. -/
import Derived.Test.YtahbepajeplcmaaGreatMg4
import Derived.Laws.EntriesVeiled
import Derived.Test.YtahbepajeplcmaaGreatMg1
import Derived.Lib.Hide
import Derived.Deep.QuietTactic
import Derived.BigQuiet
import Derived.Lib.QuietBelow
import Derived.Test.YtahbepajeplcmaaGreatShelf
import Derived.Sort.OwnSortedInts
import Derived.Test.YtahbepajeplcmaaGreatMg3
import Derived.Lib.SlicesCompact
import Derived.Lib.RowBridge
import Derived.Test.YtahbepajeplcmaaGreatMg2
import Derived.Shelf.Spec.SlicesGrow
/- Contract: the recursive closure that lists ascending lists, at every depth, where it stops at the limit. -/
namespace Go.Proofs.YtahbepajeplcmaaGreat
open Go.RowKit

/-- What comes until the limit is passed. -/
def capL {α : Type} (lim : Nat) (X : List α) : List α := X.take (lim + 1)
theorem capL_len {α : Type} {lim : Nat} (X : List α) : (capL lim X).length ≤ lim + 1 := by unfold capL; rw [List.length_take]; omega
theorem capL_all {α : Type} {lim : Nat} {X : List α} (h : X.length ≤ lim + 1) : capL lim X = X := List.take_of_length_le h
theorem capL_over {α : Type} {lim : Nat} {X : List α} (h : lim < (capL lim X).length) (Y : List α) : capL lim (X ++ Y) = capL lim X := by
  unfold capL at *; rw [List.length_take] at h; exact List.take_append_of_le_length (by omega)
theorem capL_step {α : Type} {lim : Nat} (X Y : List α) : capL lim (capL lim X ++ Y) = capL lim (X ++ Y) := by
  unfold capL
  rw [List.take_append, List.take_append, List.take_take, Nat.min_self, List.length_take]
  by_cases h : X.length ≤ lim + 1
  · rw [show min (lim + 1) X.length = X.length by omega]
  · rw [show lim + 1 - min (lim + 1) X.length = 0 by omega, show lim + 1 - X.length = 0 by omega]
theorem capL_mem {α : Type} {lim : Nat} {X : List α} {x : α} (h : x ∈ capL lim X) : x ∈ X := List.mem_of_mem_take h

set_option maxRecDepth 100000 in
set_option maxHeartbeats 8000000 in
theorem grow_full (n many lim po pl pm pn pg : Nat) (k a : Nat) (D : Option Addr) (dc : Nat) (us : List Value) (B : Option Addr) (c : Nat) (cs : List Value) (LI : List (List Int)) (w0 W : World) (ps : List Asn) (hL : lim < LI.length)
    (S : Sp w0 W (Own 3 1 (.slice D k dc) k us :: GB po pl pm pn pg B c cs LI n many lim ps)) :
    Calls Tryz.prog 53 #[.slice D k dc, .int .i64 a, .pointer (some ⟨po, 0, none⟩), .pointer (some ⟨pl, 0, none⟩), .pointer (some ⟨pm, 0, none⟩), .pointer (some ⟨pn, 0, none⟩), .pointer (some ⟨pg, 0, none⟩)] W fun e w' => e = .returned (.tuple #[]) ∧ Sp w0 w' (Own 3 1 (.slice D k dc) k us :: GB po pl pm pn pg B c cs LI n many lim ps) := by
  have c0 := S.cell (i := 2) rfl (o := 0) rfl
  have c1 := S.cell (i := 3) rfl (o := 0) rfl
  have d0 : decide ((lim : Int) < (LI.length : Int)) = true := decide_eq_true (by omega)
  replace S := Lib.hid S
  go_enter Tryz.func53, Tryz.ntmps53
  go_wp2_with fail
  (try rw [decide_eq_true (show lim < LI.length by omega)])
  go_wp2_with fail
  exact bodyPost_ret (v := .tuple #[]) (by simp [results, Tryz.results53, go_sem]) rfl ⟨rfl, S.out⟩

set_option maxRecDepth 100000 in
set_option maxHeartbeats 16000000 in
theorem growC_any (n many lim po pl pm pn pg : Nat) (hn : n ≤ 100) (hmm : many ≤ 1000) (hlim : lim ≤ 100000) : ∀ (d : Nat) (xs : List Nat) (a : Nat) (D : Option Addr) (dc : Nat) (B : Option Addr) (c : Nat) (cs : List Value) (LI : List (List Int)) (w0 W : World) (ps : List Asn), xs.length + d = many → (xs = [] → D = none) → a ≤ n + 1 → AscN (n + 1) xs → nextA xs ≤ a → LI.length ≤ lim + 1 →
    Sp w0 W (Own 3 1 (.slice D xs.length dc) xs.length ((ofN xs).map (.int .i64)) :: GB po pl pm pn pg B c cs LI n many lim ps) →
    Calls Tryz.prog 53 #[.slice D xs.length dc, .int .i64 a, .pointer (some ⟨po, 0, none⟩), .pointer (some ⟨pl, 0, none⟩), .pointer (some ⟨pm, 0, none⟩), .pointer (some ⟨pn, 0, none⟩), .pointer (some ⟨pg, 0, none⟩)] W fun e w' => e = .returned (.tuple #[]) ∧
      ∃ B' c' cs', Sp w0 w' (Own 3 1 (.slice D xs.length dc) xs.length ((ofN xs).map (.int .i64)) :: GB po pl pm pn pg B' c' cs' (capL lim (LI ++ goL (n + 1) xs d a)) n many lim ps) := by
  have eg : Enter1 53 := enters_of Tryz.func53 (by kernel_rfl) rfl
  unfold Enter1 at eg
  obtain ⟨i0, hi, hz0, hz1, hz2⟩ := info_parts infoInt
  intro d
  induction d with
  | zero =>
    intro xs a D dc B c cs LI w0 W ps hm hD ha has hna hL S
    rw [goL_zero]
    by_cases hf : lim < LI.length
    · have e1 : capL lim (LI ++ [ofN xs]) = LI := by
        rw [capL_over (X := LI) (by rw [capL_all hL]; exact hf), capL_all hL]
      rw [e1]
      refine (grow_full n many lim po pl pm pn pg xs.length a D dc _ B c cs LI w0 W ps hf S).mono ?_
      rintro e w1 ⟨rfl, S1⟩
      exact ⟨rfl, B, c, cs, S1⟩
    · rw [capL_all (X := LI ++ [ofN xs]) (by simp; omega)]
      exact grow_zero n many lim po pl pm pn pg hlim xs a D dc B c cs LI w0 W ps hm hmm hD (ofN_ok (m := n + 1) (by omega) has) (by omega) S
  | succ d ih =>
    intro xs a D dc B c cs LI w0 W ps hm hD ha has hna hL S
    by_cases hf : lim < LI.length
    · have e1 : capL lim (LI ++ goL (n + 1) xs (d + 1) a) = LI := by
        rw [capL_over (X := LI) (by rw [capL_all hL]; exact hf), capL_all hL]
      rw [e1]
      refine (grow_full n many lim po pl pm pn pg xs.length a D dc _ B c cs LI w0 W ps hf S).mono ?_
      rintro e w1 ⟨rfl, S1⟩
      exact ⟨rfl, B, c, cs, S1⟩
    have hall := Lib.hid (soL_all (n + 1) xs d a)
    have hst : Hid (capL lim (LI ++ soL (n + 1) xs d a a) = LI) := by
      unfold Hid; rw [soL_start, List.append_nil, capL_all hL]
    have hnx := Lib.hid (fun v (h : a ≤ v) => show capL lim (LI ++ soL (n + 1) xs d a (v + 1)) = capL lim (capL lim (LI ++ soL (n + 1) xs d a v) ++ goL (n + 1) (xs ++ [v]) d (v + 1)) by
      rw [soL_next (M := n + 1) (xs := xs) (d := d) h, capL_step, List.append_assoc])
    rw [soL_all]
    have hasn := Lib.hid (fun v (h : a ≤ v) (h2 : v < n + 1) => asc_snoc has (Nat.le_trans hna h) h2)
    have hih := Lib.hid (fun v (h : a ≤ v) (h2 : v < n + 1) D2 dc2 B2 c2 cs2 LI2 W2 ps2 (hL2 : LI2.length ≤ lim + 1) S2 => ih (xs ++ [v]) (v + 1) D2 dc2 B2 c2 cs2 LI2 w0 W2 ps2 (by simp; omega) (fun h => by simp at h) (by omega) (asc_snoc has (Nat.le_trans hna h) h2) (by rw [nextA_snoc]; omega) hL2 S2)
    have hsl : ∀ v : Nat, (xs ++ [v]).length = xs.length + 1 := by simp
    have hsv : ∀ v : Nat, (ofN (xs ++ [v])).map (Value.int .i64) = (ofN xs).map (.int .i64) ++ [.int .i64 (v : Int)] := by intro v; unfold ofN; simp
    simp only [hsl, hsv] at hih
    have hxl := asc_len has
    have hxm : xs.length < many := by omega
    have hln : ((ofN xs).map (Value.int .i64)).length = xs.length := by simp [ofN]
    obtain ⟨us, hus⟩ : ∃ us, (ofN xs).map (Value.int .i64) = us := ⟨_, rfl⟩
    simp only [hus] at hih S hln ⊢
    obtain ⟨xl, hxle⟩ : ∃ xl, xs.length = xl := ⟨_, rfl⟩
    simp only [hxle] at hih S hln hxl hxm ⊢
    clear ih hm hD has hna hsl hsv hus hxle
    replace hln := Lib.hid hln
    have c0 := S.cell (i := 2) rfl (o := 0) rfl
    have c1 := S.cell (i := 3) rfl (o := 0) rfl
    have c2 := S.cell (i := 4) rfl (o := 0) rfl
    have d0 : decide ((lim : Int) < (LI.length : Int)) = false := decide_eq_false (by omega)
    have d1 : ((xl : Int) == (many : Int)) = false := beq_eq_false_iff_ne.2 (by omega)
    have d2 : decide ((xl : Int) = (many : Int)) = false := decide_eq_false (by omega)
    have hL1 : LI.length ≤ lim := by omega
    clear hL
    have S0 : Hid (Sp w0 W (Own 3 1 (.slice D xl dc) xl us :: GB po pl pm pn pg B c cs (capL lim (LI ++ soL (n + 1) xs d a a)) n many lim ps)) := by
      unfold Hid; rw [hst.out]; exact S
    clear S
    go_enter Tryz.func53, Tryz.ntmps53
    go_wp2_with fail
    (try rw [decide_eq_false (show ¬ lim < LI.length by omega)])
    clear c0 c1 c2 d0
    go_loopw [9] (fun vi wr => ∃ (v : Nat) (B : Option Addr) (c : Nat) (cs : List Value), a ≤ v ∧ v ≤ n + 1 ∧ vi = .int .i64 v ∧ Hid (Sp w0 wr (Own 3 1 (.slice D xl dc) xl us :: GB po pl pm pn pg B c cs (capL lim (LI ++ soL (n + 1) xs d a v)) n many lim ps))) (fun vi _ => n + 1 - (intOf vi).toNat)
    case atStart => exact ⟨a, B, c, cs, Nat.le_refl _, ha, rfl, S0⟩
    case round =>
      obtain ⟨v, B, c, cs, hav, hvn, rfl, HS⟩ := hrel
      clear S0
      have c0 := HS.out.cell (i := 5) rfl (o := 0) rfl
      by_cases hlt : v ≤ n
      · have d3 : decide ((v : Int) ≤ (n : Int)) = true := decide_eq_true (by omega)
        have hw1 : IntKind.i64.wrap ((v : Int) + 1) = ((v + 1 : Nat) : Int) := by rw [IntWalk.i64_in _ (by omega)]; rfl
        have hnv := Lib.hid (hnx.out v hav)
        have hcall := Lib.hid (fun D2 dc2 W2 ps2 S2 => hih.out v hav (by omega) D2 dc2 B c cs (capL lim (LI ++ soL (n + 1) xs d a v)) W2 ps2 (capL_len _) S2)
        have g0 := HS.out.cell (i := 6) rfl (o := 0) rfl
        have S1 := Lib.hid HS.out.drew
        generalize hso : capL lim (LI ++ soL (n + 1) xs d a v) = SV at *
        generalize hso2 : capL lim (LI ++ soL (n + 1) xs d a (v + 1)) = SV2 at *
        generalize goL (n + 1) (xs ++ [v]) d (v + 1) = GV at *
        replace hso2 := Lib.hid hso2
        clear hso
        go_wp2_with fail
        refine wp_region_held_lit (S := (fun w' => w'.cell? ⟨pg, 0, none⟩ = some (.func (.func 53) #[] #[.pointer (some ⟨po, 0, none⟩), .pointer (some ⟨pl, 0, none⟩), .pointer (some ⟨pm, 0, none⟩), .pointer (some ⟨pn, 0, none⟩), .pointer (some ⟨pg, 0, none⟩)]))) 8 [false, false, false, false, false, false, false, false] (by kernel_rfl) (by kernel_rfl) (by kernel_rfl) ?_ ?_
        · exact g0
        intro hSc
        (refine wpAnyH_take (i := 0) (v := ?_) rfl (by kernel_rfl) (by kernel_rfl) (by kernel_rfl) (fun _ _ _ h => h) (Or.inl ⟨by rfl, ?_⟩) (by assumption) ?_; rotate_left; (focus (intro w hSw; (try dsimp only at hSw); go_simp; (try with_reducible rfl); done)); (try simp only [put_rules]))
        (refine wpAnyH_take (i := 1) (v := ?_) rfl (by kernel_rfl) (by kernel_rfl) (by kernel_rfl) (fun _ _ _ h => h) (Or.inl ⟨by rfl, ?_⟩) (by assumption) ?_; rotate_left; (focus (intro w hSw; (try dsimp only at hSw); go_simp; (try with_reducible rfl); done)); (try simp only [put_rules]))
        (refine wpAnyH_take (i := 2) (v := ?_) rfl (by kernel_rfl) (by kernel_rfl) (by kernel_rfl) (fun _ _ _ h => h) (Or.inl ⟨by rfl, ?_⟩) (by assumption) ?_; rotate_left; (focus (intro w hSw; (try dsimp only at hSw); go_simp; (try with_reducible rfl); done)); (try simp only [put_rules]))
        (refine wpAnyH_take (i := 5) (v := ?_) rfl (by kernel_rfl) (by kernel_rfl) (by kernel_rfl) (fun _ _ _ h => h) (Or.inl ⟨by rfl, ?_⟩) (by assumption) ?_; rotate_left; (focus (intro w hSw; (try dsimp only at hSw); go_simp; (try with_reducible rfl); done)); (try simp only [put_rules]))
        (refine wpAnyH_take (i := 6) (v := ?_) rfl (by kernel_rfl) (by kernel_rfl) (by kernel_rfl) (fun _ _ _ h => h) (Or.inl ⟨by rfl, ?_⟩) (by assumption) ?_; rotate_left; (focus (intro w hSw; (try dsimp only at hSw); go_simp; (try with_reducible rfl); done)); (try simp only [put_rules]))
        (refine wpAnyH_ready (rs := [3]) (by kernel_rfl) (by simp) ?_; refine AllReadyH.cons rfl (fun K hK => ?_) AllReadyH.nil)
        go_simp
        have S2 := S1.out.alloc_box #[.int .i64 (v : Int)] 3
        have kB := S2.cell (i := 0) rfl (o := 0) rfl
        refine hK.out _ _ (S2.cell (i := 7) rfl (o := 0) rfl) (fun hS2 => ?_)
        replace S2 := Lib.hid S2
        clear hK hSc S1 HS c0 g0
        (try simp only [put_rules])
        (refine wpAnyH_ready (rs := [4]) (by kernel_rfl) (by simp) ?_; refine AllReadyH.cons rfl (fun K hK => ?_) AllReadyH.nil)
        (refine step_append_keep rfl _ _ rfl Tryz.underlying35 hi hz0 hz1 hz2 rfl (by decide) _ xl _ rfl (S2.out.own (i := 1) rfl) ⟨wr.heap.size, 0, none⟩ 1 1 [.int .i64 (v : Int)] rfl rfl (fun j u hj => by
          match j, hj with
          | 0, hj => simp at hj; subst hj; rw [add_none]; exact kB) (by simp [Value.oneCell']) (by unfold maxLen; omega) (by omega) (by decide) ?_; intro vA wA hownA hgA hatA)
        have hfin : ∃ (D2 : Option Addr) (dc2 : Nat), vA = .slice D2 (xl + 1) dc2 ∧ ∃ ps2, Sp w0 wA (Own 3 1 (.slice D2 (xl + 1) dc2) (xl + 1) (us ++ [.int .i64 (v : Int)]) :: GB po pl pm pn pg B c cs SV n many lim ps2) ∧
            ∀ wz B' c' cs' LI', Sp w0 wz (Own 3 1 (.slice D2 (xl + 1) dc2) (xl + 1) (us ++ [.int .i64 (v : Int)]) :: GB po pl pm pn pg B' c' cs' LI' n many lim ps2) → Sp w0 wz (Own 3 1 (.slice D xl dc) xl us :: GB po pl pm pn pg B' c' cs' LI' n many lim ps) := by
          rcases hatA with ⟨A2, cap2, e1, rfl⟩ | ⟨hnew, hbel⟩
          · cases e1
            refine ⟨D, dc, rfl, ps, ?_, fun wz B' c' cs' LI' h => ?_⟩
            · exact (S2.out.own_push (i := 1) rfl (bb _) hownA hgA (.inl (by cases D <;> simp [Value.ownBlock]))).tail
            · obtain ⟨g', cap', cur', e2, -⟩ := own_block (h.own (i := 0) rfl) (by omega)
              simp only [Value.slice.injEq] at e2
              obtain ⟨rfl, -, rfl⟩ := e2
              have h2 := h.own_cut (i := 0) (m := xl) rfl (by omega)
              rw [show (us ++ [Value.int .i64 (v : Int)]).take xl = us by rw [← hln.out]; exact List.take_left] at h2
              exact h2
          · obtain ⟨D2, dc2, rfl⟩ := own_slice hownA
            refine ⟨D2, dc2, rfl, Own 3 1 (.slice D xl dc) xl us :: ps, ?_, fun wz B' c' cs' LI' h => h.move_out⟩
            have h1 := S2.out.tail.own_new hbel hownA (fun g hg => by rw [hnew] at hg; cases hg; exact Nat.le_refl _)
            exact h1.move_in
        obtain ⟨D2, dc2, rfl, ps2, S3, hback⟩ := hfin
        have hc3 := hcall.out D2 dc2 wA ps2 S3
        rw [show ((v + 1 : Nat) : Int) = (v : Int) + 1 from rfl] at hc3
        replace hc3 := Lib.hid hc3
        refine hK.out _ _ (S3.cell (i := 6) rfl (o := 0) rfl) (fun hS3 => ?_)
        replace hback := Lib.hid hback
        clear hK hS2 S2 S3 hcall kB hownA hgA hatA
        (try simp only [put_rules])
        (refine wpAnyH_ready (rs := [7]) (by kernel_rfl) (by simp) ?_; refine AllReadyH.cons rfl (fun K hK => ?_) AllReadyH.nil)
        go_simp
        refine hc3.out.mono ?_
        rintro e w4 ⟨rfl, B', c', cs', S4⟩
        have S5 := hback.out _ _ _ _ _ S4
        rw [← hnv.out] at S5
        have g0 := S5.cell (i := 6) rfl (o := 0) rfl
        replace S5 := Lib.hid S5
        clear hc3 hback S4
        go_wp2_with fail
        refine hK.out _ _ g0 (fun hS4 => ?_)
        clear hK hS3 g0
        (try simp only [put_rules])
        (refine wpAnyH_done (by kernel_rfl) ?_ _)
        go_wp2_with fail
        go_roundw
        case rel => exact ⟨v + 1, B', c', cs', by omega, by omega, by go_num, by unfold Hid; rw [hso2.out]; exact S5.out⟩
        case measure => simp [intOf]; omega
      · obtain rfl : v = n + 1 := by omega
        have d3 : decide (((n + 1 : Nat) : Int) ≤ (n : Int)) = false := decide_eq_false (by omega)
        replace HS := Lib.hid HS.out
        go_wp2_with fail
        exact bodyPost_end (v := .tuple #[]) (by simp [results, Tryz.results53, go_sem]) rfl ⟨rfl, B, c, cs, HS.out⟩
end Go.Proofs.YtahbepajeplcmaaGreat

/- Contract: the ascending lists of a length, at most one more than the limit, in the program. -/
namespace Go.Proofs.YtahbepajeplcmaaGreat
open Go.RowKit

set_option maxRecDepth 100000 in
set_option maxHeartbeats 8000000 in
theorem choicesC_any (n many lim : Nat) (hn : n ≤ 100) (hmm : many ≤ 1000) (hlim : lim ≤ 100000) (w : World) :
    Calls Tryz.prog 22 #[.int .i64 n, .int .i64 many, .int .i64 lim] w fun e w' => ∃ B c cs, e = .returned (.slice B (capL lim (goL (n + 1) [] many 1)).length c) ∧ Sp w w' [Rows Ty.int 35 (.slice B (capL lim (goL (n + 1) [] many 1)).length c) cs (capL lim (goL (n + 1) [] many 1))] := by
  have Sn := (((((Sp.start w).alloc_box #[.int .i64 n] 3).alloc_box #[.int .i64 many] 3).alloc_box #[.int .i64 lim] 3).alloc_box #[.slice none 0 0] 26).alloc_box #[.func (.func 53) #[] #[.pointer (some ⟨w.heap.size + 1 + 1 + 1, 0, none⟩), .pointer (some ⟨w.heap.size + 1 + 1, 0, none⟩), .pointer (some ⟨w.heap.size + 1, 0, none⟩), .pointer (some ⟨w.heap.size, 0, none⟩), .pointer (some ⟨w.heap.size + 1 + 1 + 1 + 1, 0, none⟩)]] 74
  simp only [World.size_alloc] at Sn
  have S0 := Sn
  have S1 := (((S0.rows_nil Ty.int 35).own_nil 3 1))
  have S2 : Sp w _ (Own 3 1 (.slice none ([] : List Nat).length 0) ([] : List Nat).length ((ofN []).map (.int .i64)) :: GB (w.heap.size + 1 + 1 + 1) (w.heap.size + 1 + 1) (w.heap.size + 1) w.heap.size (w.heap.size + 1 + 1 + 1 + 1) none 0 [] [] n many lim []) := Sp.pick [0, 0, 1, 1, 1, 1, 0] S1 rfl
  have hcall := Lib.hid (growC_any n many lim (w.heap.size + 1 + 1 + 1) (w.heap.size + 1 + 1) (w.heap.size + 1) w.heap.size (w.heap.size + 1 + 1 + 1 + 1) hn hmm hlim many [] 1 none 0 none 0 [] [] w _ [] (by simp) (fun _ => rfl) (by omega) ⟨by simp, by simp⟩ (by rw [nextA_nil]; omega) (by simp) S2)
  have g0 := S2.cell (i := 6) rfl (o := 0) rfl
  clear S0 S1 Sn
  simp only [List.nil_append, List.length_nil, show ((1 : Nat) : Int) = 1 from rfl] at hcall
  generalize capL lim (goL (n + 1) [] many 1) = GL at *
  go_enter Tryz.func22, Tryz.ntmps22
  go_wp2_with fail
  refine hcall.out.mono ?_
  rintro e w2 ⟨rfl, B, c, cs, S3⟩
  have c2 := S3.cell (i := 2) rfl (o := 0) rfl
  have S4 := Lib.hid (Sp.pick [1] S3 rfl)
  clear hcall S3 g0 S2
  go_wp2_with fail
  go_ret
  exact ⟨B, c, cs, rfl, S4.out⟩
end Go.Proofs.YtahbepajeplcmaaGreat

/- Contracts: the laws' own comparisons of numbers. -/
namespace Go.Proofs.YtahbepajeplcmaaGreat
open Go.RowKit

/- left out: the seat has no laws.rBig -/

/- left out: the seat has no laws.rInts -/

set_option maxRecDepth 100000 in
set_option maxHeartbeats 4000000 in
theorem vInts_same (A A' : Option Addr) (c c' : Nat) (ns : List Int) (w : World) (hx : IntsAt w A ns) (hy : IntsAt w A' ns) (hl : ns.length ≤ 1000000) :
    Calls Tryz.prog 58 #[.slice A ns.length c, .slice A' ns.length c'] w fun e w' => e = .returned (.bool true) ∧ Below w.heap.size w w' := by
  have hN := Lib.hid hx
  have hM := Lib.hid hy
  clear hx hy
  go_enter Tryz.func58, Tryz.ntmps58
  go_wp2_with fail
  go_loopw [5] (fun i wr => ∃ k : Nat, k ≤ ns.length ∧ i = .int .i64 k ∧ Hid (Below w.heap.size w wr)) (fun i _ => ns.length - (intOf i).toNat)
  case atStart => exact ⟨0, Nat.zero_le _, rfl, bb _⟩
  case round =>
    obtain ⟨k, hk, rfl, HS⟩ := hrel
    by_cases hlt : k < ns.length
    · obtain ⟨b, off, rfl, m0⟩ := (hN.out.grow HS.out).at_ k hlt
      obtain ⟨b', off', rfl, p0⟩ := (hM.out.grow HS.out).at_ k hlt
      have k0 := cell_regrown m0
      have q0 := cell_regrown p0
      generalize ns[k] = v at *
      clear m0 p0
      go_wp2_with fail
      refine wp_region_quiet_below (by kernel_rfl) (by kernel_rfl) ?_
      repeat (any_goals (go_big_quiet_step (fail)))
      refine wpQuiet_nil ?_
      rintro w3 ⟨p, rfl⟩
      have HS4 := Lib.hid (btr HS.out (below_regrown _ p.d p.os))
      clear HS k0 q0
      go_wp2_with fail
      go_roundw
      case rel => exact ⟨k + 1, by omega, by go_num, HS4⟩
      case measure => simp [intOf]; omega
    · obtain rfl : k = ns.length := by omega
      have hB := HS.out
      go_wp2_with fail
      go_ret
      exact ⟨rfl, hB⟩
end Go.Proofs.YtahbepajeplcmaaGreat

/- Contracts: numbers sorted and without repetitions, in the library. -/
namespace Go.Proofs.YtahbepajeplcmaaGreat
open Go.RowKit Go.Sort

/- left out: the seat has no slices.Sort[[]int,int] -/

theorem compactI_any (xs : List Int) (B : Option Addr) (cc : Nat) (w0 w : World) (ps : List Asn) (S : Sp w0 w (Own 3 1 (.slice B xs.length cc) xs.length (xs.map (.int .i64)) :: ps)) (hl : xs.length ≤ 1000000) :
    Calls Tryz.prog 81 #[.slice B xs.length cc] w fun e w' => e = .returned (.slice B (Lib.compact xs).length cc) ∧ Sp w0 w' (Own 3 1 (.slice B (Lib.compact xs).length cc) (Lib.compact xs).length ((Lib.compact xs).map (.int .i64)) :: ps) := by
  rcases Nat.eq_zero_or_pos xs.length with h0 | h0
  · obtain rfl : xs = [] := List.length_eq_zero_iff.1 h0
    refine (Tryz.slices_Compact_int_empty B cc w).mono ?_
    rintro e w' ⟨rfl, rfl⟩
    exact ⟨rfl, S⟩
  · obtain ⟨g, cap, cur, e1, h0', hg, hnc, hmx, hc, ht⟩ := own_block (S.own (i := 0) rfl) h0
    simp only [Value.slice.injEq] at e1
    obtain ⟨rfl, -, rfl⟩ := e1
    rw [Nat.mul_one] at ht
    have hH := holds_of_blockI hg ht
    have hcl : (Lib.compact xs).length ≤ xs.length := Lib.compact_length_le xs
    refine (Tryz.slices_Compact_int g 0 cc xs w hH (by omega) hnc).mono ?_
    rintro e w' ⟨rfl, q, rfl⟩
    have h := S.own_putRow (i := 0) (q := q) (m := (Lib.compact xs).length) (Value.int .i64) (Lib.compact xs ++ List.replicate (xs.length - (Lib.compact xs).length) 0).toArray rfl (by simp; omega) (by simp) h0
    refine ⟨rfl, ?_⟩
    have e2 : (((Lib.compact xs ++ List.replicate (xs.length - (Lib.compact xs).length) 0).toArray.toList.map (Value.int .i64)).take (Lib.compact xs).length) = (Lib.compact xs).map (.int .i64) := by
      rw [List.toList_toArray, List.map_append, List.take_append_of_le_length (by simp), List.take_of_length_le (by simp)]
    rw [e2] at h
    exact h
end Go.Proofs.YtahbepajeplcmaaGreat

/- Plain facts: the variables of clauses, in ascending order. No program in sight. -/
namespace Go.Proofs.YtahbepajeplcmaaGreat
open Go.RowKit

theorem ascI_ext : ∀ {a b : List Int}, a.Pairwise (· < ·) → b.Pairwise (· < ·) → (∀ x, x ∈ a ↔ x ∈ b) → a = b
  | [], [], _, _, _ => rfl
  | [], y :: b, _, _, h => absurd ((h y).2 (List.mem_cons_self ..)) (by simp)
  | x :: a, [], _, _, h => absurd ((h x).1 (List.mem_cons_self ..)) (by simp)
  | x :: a, y :: b, ha, hb, h => by
    rw [List.pairwise_cons] at ha hb
    have e : x = y := by
      rcases List.mem_cons.1 ((h x).1 (List.mem_cons_self ..)) with e | hx
      · exact e
      rcases List.mem_cons.1 ((h y).2 (List.mem_cons_self ..)) with e | hy
      · exact e.symm
      have := hb.1 x hx; have := ha.1 y hy; omega
    subst e
    congr 1
    refine ascI_ext ha.2 hb.2 fun z => ⟨fun hz => ?_, fun hz => ?_⟩
    · rcases List.mem_cons.1 ((h z).1 (List.mem_cons_of_mem _ hz)) with e | h2
      · have := ha.1 z hz; omega
      · exact h2
    · rcases List.mem_cons.1 ((h z).2 (List.mem_cons_of_mem _ hz)) with e | h2
      · have := hb.1 z hz; omega
      · exact h2
theorem bangI {l : List Int} {j : Nat} (h : j < l.length) : l.toArray[j]! = l[j] := by rw [getElem!_pos l.toArray j (by simpa using h)]; simp
theorem compactI_mem {l : List Int} {x : Int} : x ∈ Lib.compact l ↔ x ∈ l := by
  unfold Lib.compact Lib.compactUpTo
  rw [List.mem_map]
  constructor
  · rintro ⟨j, hj, rfl⟩
    have hjl := List.mem_range.1 (List.mem_filter.1 hj).1
    rw [bangI hjl]
    exact List.getElem_mem hjl
  · intro hx
    obtain ⟨j, hj, rfl⟩ := List.getElem_of_mem hx
    have key : ∀ j (hj : j < l.length), ∃ i, i ∈ (List.range l.length).filter (Lib.keeps l.toArray) ∧ l.toArray[i]! = l[j] := by
      intro j
      induction j with
      | zero => exact fun hj => ⟨0, List.mem_filter.2 ⟨List.mem_range.2 hj, by simp [Lib.keeps]⟩, bangI hj⟩
      | succ j ih =>
        intro hj
        by_cases e : l[j + 1] = l[j]
        · obtain ⟨i, hi, h2⟩ := ih (by omega)
          exact ⟨i, hi, by rw [h2, e]⟩
        · refine ⟨j + 1, List.mem_filter.2 ⟨List.mem_range.2 hj, ?_⟩, bangI hj⟩
          refine Lib.keeps_pos ?_
          rw [Nat.add_sub_cancel, bangI hj, bangI (by omega)]
          exact e
    exact key j hj
theorem compactI_asc {l : List Int} (h : l.Pairwise (· ≤ ·)) : (Lib.compact l).Pairwise (· < ·) := by
  unfold Lib.compact Lib.compactUpTo
  rw [List.pairwise_map]
  have hr : ((List.range l.length).filter (Lib.keeps l.toArray)).Pairwise (· < ·) := List.Pairwise.filter _ List.pairwise_lt_range
  refine hr.imp_of_mem fun {i j} hi hj hij => ?_
  have hil := List.mem_range.1 (List.mem_filter.1 hi).1
  have hjl := List.mem_range.1 (List.mem_filter.1 hj).1
  have hk := (List.mem_filter.1 hj).2
  rw [bangI hil, bangI hjl]
  have hget := List.pairwise_iff_getElem.1 h
  have hne : l[j] ≠ l[j - 1]'(by omega) := fun e => by
    have : Lib.keeps l.toArray j = false := Lib.keeps_neg (by omega) (by rw [bangI hjl, bangI (by omega)]; exact e)
    rw [this] at hk; cases hk
  have h1 : l[j - 1]'(by omega) ≤ l[j] := hget (j - 1) j (by omega) hjl (by omega)
  by_cases e : i = j - 1
  · subst e; omega
  · have := hget i (j - 1) hil (by omega) (by omega); omega
theorem sorted_le (l : List Int) : (l.mergeSort fun x y => decide (x ≤ y)).Pairwise (· ≤ ·) := by
  have h := List.pairwise_mergeSort (le := fun x y : Int => decide (x ≤ y)) (fun a b c h1 h2 => by simp at *; omega) (fun a b => by simp; omega) l
  exact h.imp fun h => by simpa using h
/-- A list in ascending order, without repetitions. -/
def ascL (l : List Int) : List Int := Lib.compact (l.mergeSort fun x y => decide (x ≤ y))
theorem ascL_asc (l : List Int) : (ascL l).Pairwise (· < ·) := compactI_asc (sorted_le l)
theorem ascL_mem {l : List Int} {x : Int} : x ∈ ascL l ↔ x ∈ l := by unfold ascL; rw [compactI_mem, List.mem_mergeSort]
theorem ascL_eq {l m : List Int} (hm : m.Pairwise (· < ·)) (h : ∀ x, x ∈ l ↔ x ∈ m) : ascL l = m := ascI_ext (ascL_asc l) hm fun x => by rw [ascL_mem, h]

/-- The variables up to n with a property. -/
def varF (n : Nat) (p : Nat → Bool) : List Int := ((List.range' 1 n).filter p).map fun (v : Nat) => (v : Int)
theorem varF_asc (n : Nat) (p : Nat → Bool) : (varF n p).Pairwise (· < ·) := by
  unfold varF
  rw [List.pairwise_map]
  exact (List.Pairwise.filter _ (List.pairwise_lt_range' (s := 1) (n := n))).imp fun h => by omega
theorem varF_mem {n : Nat} {p : Nat → Bool} {x : Int} : x ∈ varF n p ↔ 1 ≤ x ∧ x ≤ n ∧ p x.toNat = true := by
  unfold varF
  simp only [List.mem_map, List.mem_filter, List.mem_range'_1]
  constructor
  · rintro ⟨v, ⟨⟨h1, h2⟩, h3⟩, rfl⟩
    exact ⟨by omega, by omega, by simpa using h3⟩
  · rintro ⟨h1, h2, h3⟩
    exact ⟨x.toNat, ⟨⟨by omega, by omega⟩, h3⟩, by omega⟩
theorem varF_len (n : Nat) (p : Nat → Bool) : (varF n p).length ≤ n := by
  unfold varF
  rw [List.length_map]
  exact Nat.le_trans (List.length_filter_le _ _) (by simp)
theorem varF_snoc (n : Nat) (p : Nat → Bool) : varF (n + 1) p = varF n p ++ (if p (n + 1) = true then [((n + 1 : Nat) : Int)] else []) := by
  unfold varF
  rw [List.range'_concat, List.filter_append, List.map_append]
  congr 1
  rw [Nat.one_mul, Nat.add_comm 1 n]
  by_cases h : p (n + 1) = true <;> simp [h]
theorem varF_sub (n : Nat) (p q : Nat → Bool) : (varF n p).filter (fun x => q x.toNat) = varF n fun v => p v && q v := by
  unfold varF
  rw [List.filter_map, List.filter_filter]
  congr 1
  apply List.filter_congr
  intro v _
  simp [Function.comp, Bool.and_comm]
theorem varF_split (n : Nat) (p q : Nat → Bool) : (varF n fun v => p v && !q v).length + (varF n fun v => q v && !p v).length + (varF n fun v => p v && q v).length = (varF n fun v => p v || q v).length := by
  unfold varF
  simp only [List.length_map]
  induction List.range' 1 n with
  | nil => rfl
  | cons v l ih =>
    simp only [List.filter_cons]
    cases p v <;> cases q v <;> simp <;> omega
theorem varF_congr {n : Nat} {p q : Nat → Bool} (h : ∀ v, 1 ≤ v → v ≤ n → p v = q v) : varF n p = varF n q := by
  unfold varF
  congr 1
  apply List.filter_congr
  intro v hv
  rw [List.mem_range'_1] at hv
  exact h v hv.1 (by omega)

/-- A variable is in some clause. -/
def usedB (cls : List (List Int)) (v : Nat) : Bool := cls.any fun c => c.any fun l => l.natAbs == v
/-- All literals' variables. -/
def flatA (cls : List (List Int)) : List Int := cls.flatMap fun c => c.map fun l => (l.natAbs : Int)
theorem flatA_take {cls : List (List Int)} {k : Nat} (h : k < cls.length) : flatA (cls.take (k + 1)) = flatA (cls.take k) ++ cls[k].map fun l => (l.natAbs : Int) := by
  unfold flatA
  rw [List.take_succ_eq_append_getElem h, List.flatMap_append]
  simp
theorem used_asc {cls : List (List Int)} {n : Nat} (h : ∀ c ∈ cls, ∀ l ∈ c, l ≠ 0 ∧ l.natAbs ≤ n) : ascL (flatA cls) = varF n (usedB cls) := by
  refine ascL_eq (varF_asc _ _) fun x => ?_
  rw [varF_mem]
  unfold flatA usedB
  simp only [List.mem_flatMap, List.mem_map, List.any_eq_true, beq_iff_eq]
  constructor
  · rintro ⟨c, hc, l, hl, rfl⟩
    have := h c hc l hl
    exact ⟨by omega, by omega, c, hc, l, hl, by simp⟩
  · rintro ⟨h1, -, c, hc, l, hl, h2⟩
    exact ⟨c, hc, l, hl, by omega⟩
theorem flatA_len {cls : List (List Int)} {m : Nat} (h : ∀ c ∈ cls, c.length ≤ m) : (flatA cls).length ≤ m * cls.length := by
  unfold flatA
  induction cls with
  | nil => simp
  | cons c cls ih =>
    rw [List.flatMap_cons, List.length_append, List.length_map, List.length_cons, Nat.mul_add]
    have := h c (List.mem_cons_self ..)
    have := ih fun d hd => h d (List.mem_cons_of_mem _ hd)
    omega
end Go.Proofs.YtahbepajeplcmaaGreat

/- An own row of numbers with one more. No program in sight. -/
namespace Go.Proofs.YtahbepajeplcmaaGreat
open Go.RowKit

theorem ownI_snoc {w0 w : World} {ps : List Asn} {e : TypeId} {d : List Int} {x : Int} {A : Option Addr} {c : Nat} (S : Sp w0 w (Own e 1 (.slice A (d.length + 1) c) (d.length + 1) (d.map (.int .i64) ++ [.int .i64 x]) :: ps)) :
    Sp w0 w (Own e 1 (.slice A (d ++ [x]).length c) (d ++ [x]).length ((d ++ [x]).map (.int .i64)) :: ps) := by
  rw [List.map_append, List.length_append]; exact S
theorem ownI_snocC {w0 w : World} {g cl cc A0 : Nat} {ca : Option Addr} {ps : List Asn} {e : TypeId} {d : List Int} {x : Int} {A : Option Addr} {c : Nat} (S : CS w0 g ca cl cc A0 w (Own e 1 (.slice A (d.length + 1) c) (d.length + 1) (d.map (.int .i64) ++ [.int .i64 x]) :: ps)) :
    CS w0 g ca cl cc A0 w (Own e 1 (.slice A (d ++ [x]).length c) (d ++ [x]).length ((d ++ [x]).map (.int .i64)) :: ps) := by
  rw [List.map_append, List.length_append]; exact S
end Go.Proofs.YtahbepajeplcmaaGreat

/- Contract: the variables of clauses, in the program. -/
namespace Go.Proofs.YtahbepajeplcmaaGreat
open Go.RowKit

theorem flatA_small {cls : List (List Int)} (hc : ∀ c ∈ cls, ClS c) : ∀ x ∈ flatA cls, 0 ≤ x ∧ x ≤ 1000 := fun x hx => by
  unfold flatA at hx
  obtain ⟨c, hcm, hx⟩ := List.mem_flatMap.1 hx
  obtain ⟨l, hl, rfl⟩ := List.mem_map.1 hx
  have := (hc c hcm).1 l hl
  unfold LitS at this
  omega
theorem flatA_in {cls : List (List Int)} {k j : Nat} (hk : k < cls.length) (hj : j < cls[k].length) : flatA (cls.take k) ++ (cls[k].take (j + 1)).map (fun l => (l.natAbs : Int)) = flatA (cls.take k) ++ (cls[k].take j).map (fun l => (l.natAbs : Int)) ++ [(cls[k][j].natAbs : Int)] := by
  rw [List.take_succ_eq_append_getElem hj, List.map_append, List.append_assoc]
  rfl

/- left out: the seat has no impl.varsOf -/
end Go.Proofs.YtahbepajeplcmaaGreat

/- Contracts: the sides of a Cnf, in the reference. -/
namespace Go.Proofs.YtahbepajeplcmaaGreat
open Go.RowKit

set_option maxHeartbeats 1000000 in
theorem l1HasI_any (xs : List Int) (A : Option Addr) (cap : Nat) (x : Int) (w : World) (hx : IntsAt w A xs) (hl : xs.length ≤ 1000000) :
    Calls Tryz.prog 109 #[.slice A xs.length cap, .int .i64 x] w fun e w' => e = .returned (.bool (hasI xs x)) ∧ w = w' := by
  have hX := Lib.hid hx
  clear hx
  go_enter Tryz.func109, Tryz.ntmps109
  go_wp2_with fail
  go_loopw [5] (fun i wr => ∃ k : Nat, k ≤ xs.length ∧ i = .int .i64 k ∧ Hid (hasI (xs.take k) x = false) ∧ w = wr) (fun i _ => xs.length - (intOf i).toNat)
  case atStart => exact ⟨0, Nat.zero_le _, rfl, by simp [Hid, hasI], rfl⟩
  case round =>
    obtain ⟨k, hk, rfl, HR, rfl⟩ := hrel
    by_cases hlt : k < xs.length
    · obtain ⟨b, off, rfl, k0⟩ := hX.out.at_ k hlt
      by_cases he : xs[k] = x
      · have HN : Hid (hasI xs x = true) := hasI_yes hlt he
        have he' : (xs[k] == x) = true := by simpa using he
        clear he HR
        go_wp2_with fail
        go_ret
        exact ⟨ret_bool HN.out.symm, rfl⟩
      · have HN : Hid (hasI (xs.take (k + 1)) x = false) := hasI_no hlt HR.out he
        have he' : (xs[k] == x) = false := by simpa using he
        clear he HR
        go_wp2_with fail
        go_roundw
        case rel => exact ⟨k + 1, by omega, by go_num, HN, by first | rfl | trivial⟩
        case measure => simp [intOf]; omega
    · obtain rfl : k = xs.length := by omega
      have HN := HR.out
      rw [List.take_length] at HN
      replace HN := Lib.hid HN
      clear HR
      go_wp2_with fail
      go_ret
      exact ⟨ret_bool HN.out.symm, rfl⟩

set_option maxHeartbeats 1000000 in
theorem l2HasI_any (xs : List Int) (A : Option Addr) (cap : Nat) (x : Int) (w : World) (hx : IntsAt w A xs) (hl : xs.length ≤ 1000000) :
    Calls Tryz.prog 96 #[.slice A xs.length cap, .int .i64 x] w fun e w' => e = .returned (.bool (hasI xs x)) ∧ w = w' := by
  have hc := Lib.hid (l1HasI_any xs A cap x w hx hl)
  clear hx
  go_enter Tryz.func96, Tryz.ntmps96
  go_wp2_with fail
  refine hc.out.mono ?_
  rintro e w1 ⟨rfl, rfl⟩
  go_wp2_with fail
  go_ret
  exact ⟨rfl, rfl⟩

/-- A literal is in some clause. -/
def occB (cls : List (List Int)) (l : Int) : Bool := cls.any fun c => hasI c l
theorem occ_used {cls : List (List Int)} {v : Nat} : (occB cls v || occB cls (-v)) = usedB cls v := by
  unfold occB usedB hasI
  rw [Bool.eq_iff_iff]
  simp only [Bool.or_eq_true, List.any_eq_true, List.contains_iff_mem, beq_iff_eq]
  constructor
  · rintro (⟨c, hc, h⟩ | ⟨c, hc, h⟩)
    · exact ⟨c, hc, _, h, by simp⟩
    · exact ⟨c, hc, _, h, by simp⟩
  · rintro ⟨c, hc, l, hl, rfl⟩
    rcases Int.natAbs_eq l with e | e
    · exact .inl ⟨c, hc, by rw [← e]; exact hl⟩
    · exact .inr ⟨c, hc, by rw [← e]; exact hl⟩
theorem occ_yes {cls : List (List Int)} {l : Int} {k : Nat} (hk : k < cls.length) (h : hasI cls[k] l = true) : occB cls l = true := List.any_eq_true.2 ⟨_, List.getElem_mem hk, h⟩
theorem occ_no {cls : List (List Int)} {l : Int} {k : Nat} (hk : k < cls.length) (h0 : occB (cls.take k) l = false) (h : hasI cls[k] l = false) : occB (cls.take (k + 1)) l = false := by
  unfold occB at *
  rw [List.take_succ_eq_append_getElem hk, List.any_append, h0]
  simp [h]

/- left out: the seat has no spec.l2Occurs -/

theorem ClsAt.to {w : World} {A : Option Addr} {cls : List (List Int)} (h : ClsAt w A cls) (k : Nat) : ClsAt w A (cls.take k) := ⟨fun j hj => by
  have hj2 : j < cls.length := by rw [List.length_take] at hj; omega
  obtain ⟨b, off, B, c, e, h1, h2⟩ := h.at_ j hj2
  exact ⟨b, off, B, c, e, by rw [List.getElem_take]; exact h1, by rw [List.getElem_take]; exact h2⟩⟩
theorem ClsAt.from {w : World} {A : Option Addr} {cls : List (List Int)} {cap : Nat} (h : ClsAt w A cls) (k : Nat) (hc : cls.length ≤ cap) : ClsAt w (cutA A cap k 1) (cls.drop k) := ⟨fun j hj => by
  rw [List.length_drop] at hj
  obtain ⟨b, off, B, c, e, h1, h2⟩ := h.at_ (k + j) (by omega)
  subst e
  refine ⟨b, off + k, B, c, ?_, ?_, ?_⟩
  · unfold cutA
    rw [if_neg (by omega), Option.map_some, add_none, Nat.mul_one]
  · rw [List.getElem_drop, Nat.add_assoc]; exact h1
  · rw [List.getElem_drop]; exact h2⟩

/-- A side is asked for. -/
def askB (vars : Int) (xss : List (List Int)) (k : Int) : Bool := goodB vars xss && inB k 0 xss.length

/- left out: the seat has no spec.l29Asked -/

/- left out: the seat has no spec.l29Left -/
end Go.Proofs.YtahbepajeplcmaaGreat

/- Contracts: the variables of both sides, in the reference. -/
namespace Go.Proofs.YtahbepajeplcmaaGreat
open Go.RowKit

/-- The parts of what the reference tells of the sides. -/
def onlyL (L R : List (List Int)) (v : Nat) : Bool := usedB L v && !usedB R v
def bothL (L R : List (List Int)) (v : Nat) : Bool := usedB L v && usedB R v
theorem varF_yes {n : Nat} {p : Nat → Bool} {z : Int} (hz : (n : Int) + 1 = z) (h : p (n + 1) = true) : varF n p ++ [z] = varF (n + 1) p := by
  rw [varF_snoc, if_pos h, ← hz]; rfl
theorem varF_no {n : Nat} {p : Nat → Bool} (h : p (n + 1) = false) : varF n p = varF (n + 1) p := by
  rw [varF_snoc, h]; simp
/-- Three rows of numbers. -/
def Ints3 (w : World) (a b c : List Int) (e : Ending) (w' : World) : Prop :=
  ∃ D dc E ec G gc, e = .returned (.tuple #[.slice D a.length dc, .slice E b.length ec, .slice G c.length gc]) ∧ Sp w w' [Own 3 1 (.slice D a.length dc) a.length (a.map (.int .i64)), Own 3 1 (.slice E b.length ec) b.length (b.map (.int .i64)), Own 3 1 (.slice G c.length gc) c.length (c.map (.int .i64))]

/- left out: the seat has no spec.l29Sides -/

end Go.Proofs.YtahbepajeplcmaaGreat

/- Contract: the sides of a Cnf, in the reference. -/
namespace Go.Proofs.YtahbepajeplcmaaGreat
open Go.RowKit

/-- Three rows of numbers, and whether they are told. -/
def Ints4 (w : World) (ok : Bool) (a b c : List Int) (e : Ending) (w' : World) : Prop :=
  ∃ D dc E ec G gc, e = .returned (.tuple #[.slice D a.length dc, .slice E b.length ec, .slice G c.length gc, .bool ok]) ∧ IntsAt w' D a ∧ IntsAt w' E b ∧ IntsAt w' G c ∧ Below w.heap.size w w'
/-- What is told of the sides. -/
def sideL (vars : Int) (xss : List (List Int)) (k : Int) (L R : List (List Int)) : List Int := if askB vars xss k then varF vars.toNat (onlyL L R) else []
def sideB (vars : Int) (xss : List (List Int)) (k : Int) (L R : List (List Int)) : List Int := if askB vars xss k then varF vars.toNat (bothL L R) else []
theorem varF_ok {n : Nat} (hn : n ≤ 1000) {p : Nat → Bool} : ∀ x ∈ varF n p, I64 x := fun x hx => by
  have := varF_mem.1 hx
  unfold I64; omega
theorem Sp.ints {w0 w : World} {ps : List Asn} {i : Nat} {A : Option Addr} {cs : List Int} {c : Nat} {e : TypeId} (h : Sp w0 w ps) (hi : ps[i]? = some (Own e 1 (.slice A cs.length c) cs.length (cs.map (.int .i64)))) (hok : ∀ x ∈ cs, I64 x) : IntsAt w A cs := by
  obtain ⟨A', c', e1, hI⟩ := ints_own (h.own hi) hok
  cases e1
  exact hI
theorem ask_parts {vars : Int} {xss : List (List Int)} {k : Int} (h : askB vars xss k = true) : goodB vars xss = true ∧ 0 ≤ k ∧ k ≤ xss.length := by
  unfold askB at h
  rw [Bool.and_eq_true, inB_true] at h
  exact ⟨h.1, h.2.1, h.2.2⟩

/- left out: the seat has no spec.SidesOf -/
end Go.Proofs.YtahbepajeplcmaaGreat

/- Contracts: a Cnf with its left clauses, in the program. -/
namespace Go.Proofs.YtahbepajeplcmaaGreat
open Go.RowKit

/- left out: the seat has no slices.Contains[[]int,int] -/

theorem has_varF {n : Nat} {q : Nat → Bool} {x : Int} (h1 : 1 ≤ x) (h2 : x ≤ n) : hasI (varF n q) x = q x.toNat := by
  unfold hasI
  rw [Bool.eq_iff_iff, List.contains_iff_mem, varF_mem]
  exact ⟨fun h => h.2.2, fun h => ⟨h1, h2, h⟩⟩
theorem filt_both (n : Nat) (p q : Nat → Bool) : ((varF n p).filter fun x => !(!hasI (varF n q) x)) = varF n fun v => p v && q v := by
  rw [← varF_sub]
  apply List.filter_congr
  intro x hx
  obtain ⟨h1, h2, -⟩ := varF_mem.1 hx
  rw [Bool.not_not, has_varF h1 h2]
theorem filt_only (n : Nat) (p q : Nat → Bool) : ((varF n p).filter fun x => !hasI (varF n fun v => p v && q v) x) = varF n fun v => p v && !q v := by
  rw [← varF_sub n p (fun v => !q v)]
  apply List.filter_congr
  intro x hx
  obtain ⟨h1, h2, h3⟩ := varF_mem.1 hx
  rw [has_varF h1 h2, h3, Bool.true_and]

/- left out: the seat has no (*loop.example/g01080/impl.split).left -/

/- left out: the seat has no (*loop.example/g01080/impl.split).right -/

/- left out: the seat has no impl.splitOf$1 -/
end Go.Proofs.YtahbepajeplcmaaGreat

/- Contracts: a Cnf with its left clauses, in the program: made. -/
namespace Go.Proofs.YtahbepajeplcmaaGreat
open Go.RowKit

/- left out: the seat has no impl.splitOf -/

/- left out: the seat has no impl.split -/

/- left out: the seat has no impl.splitOf -/
end Go.Proofs.YtahbepajeplcmaaGreat

/- Contract: the sides of a Cnf, in the program. -/
namespace Go.Proofs.YtahbepajeplcmaaGreat
open Go.RowKit

/- left out: the seat has no impl.SidesOf$1$1 -/

/-- A row of numbers of the call's own. -/
def OneI (w : World) (zs : List Int) (e : Ending) (w' : World) : Prop := ∃ D dc, e = .returned (.slice D zs.length dc) ∧ Sp w w' [Own 3 1 (.slice D zs.length dc) zs.length (zs.map (.int .i64))]
theorem cell_below {w w' : World} {a : Addr} {u : Value} (h : w.cell? a = some u) (hb : Below w.heap.size w w') : w'.cell? a = some u := (hb.cell (World.block_lt_of_cell? _ _ h)).trans h

/- left out: the seat has no impl.SidesOf$1 -/

/- left out: the seat has no impl.SidesOf -/
end Go.Proofs.YtahbepajeplcmaaGreat

/- Memory in parts beside a cursor that turns: rows of rows. -/
namespace Go.Proofs.YtahbepajeplcmaaGreat
open Go.RowKit

/-- An own row of numbers is a row with all that it reaches. -/
theorem Sp.own_to_row {w0 w : World} {ps : List Asn} {e : TypeId} {v : Value} {c : List Int} (h : Sp w0 w (Own e 1 v c.length (c.map (.int .i64)) :: ps)) (hok : ∀ x ∈ c, I64 x) : Sp w0 w (Row Ty.int v c :: ps) := by
  obtain ⟨F, ⟨rfl, ho⟩, _, hall⟩ := h.upd (i := 0) rfl
  obtain ⟨F, hr, hF, _⟩ := Ty.row_of_owns (T := Ty.int) ho rfl (by decide) (Ty.all_int hok)
  refine hall w (Row Ty.int v c) F (Chg.refl _ _) ⟨hr, ?_⟩ fun b hb => .inl ?_
  · rcases hF with rfl | ⟨g, _, _, _, rfl⟩ <;> simp
  · rcases hF with rfl | ⟨g, _, _, hg, rfl⟩
    · simp at hb
    · simp [hg] at hb ⊢; exact hb
section
variable {w0 w w' w1 : World} {g cl cc A i : Nat} {ca : Option Addr} {ps : List Asn} {e : TypeId}
theorem CS.own_to_row {v : Value} {c : List Int} (h : CS w0 g ca cl cc A w (Own e 1 v c.length (c.map (.int .i64)) :: ps)) (hok : ∀ x ∈ c, I64 x) : CS w0 g ca cl cc A w (Row Ty.int v c :: ps) := by
  obtain ⟨F, ⟨rfl, ho⟩, _, hall⟩ := h.upd (i := 0) rfl
  obtain ⟨F, hr, hF, _⟩ := Ty.row_of_owns (T := Ty.int) ho rfl (by decide) (Ty.all_int hok)
  refine hall w (Row Ty.int v c) F (Chg.refl _ _) ⟨hr, ?_⟩ fun b hb => .inl ?_
  · rcases hF with rfl | ⟨g, _, _, _, rfl⟩ <;> simp
  · rcases hF with rfl | ⟨g, _, _, hg, rfl⟩
    · simp at hb
    · simp [hg] at hb ⊢; exact hb
variable {α : Type} {T : Ty α} {v v' u : Value} {cs : List Value} {xss : List (List α)} {ys : List α}
theorem CS.rows (h : CS w0 g ca cl cc A w ps) (hi : ps[i]? = some (Rows T e v cs xss)) : w.ownsRow 0 e 1 v xss.length cs := by
  obtain ⟨F, ⟨G, _, _, _, h⟩, _⟩ := h.get hi
  exact h
theorem CS.rows_made (h : CS w0 g ca cl cc A w ps) (T : Ty α) (e : TypeId) : CS w0 g ca cl cc A (w.alloc (.cells #[] e)) (Rows T e (.slice (some ⟨w.heap.size, 0, none⟩) 0 0) [] [] :: ps) :=
  h.new (F := [w.heap.size]) (bal (bb _) _) ⟨[], rfl, by simp, ⟨rfl, rfl⟩, ⟨by simp, .inr ⟨w.heap.size, 0, #[], rfl, Nat.zero_le _, heap_alloc_new w _, Nat.le_refl _, by decide, by simp, by simp⟩⟩⟩ (by simp)
/-- A row goes into a row of rows. -/
theorem CS.rows_push (h : CS w0 g ca cl cc A w (Row T u ys :: Rows T e v cs xss :: ps)) (hb : Below w.heap.size w w1) (ho : w'.ownsRow 0 e 1 v' (xss.length + 1) (cs ++ [u])) (hg : w1.grownBy w' v.ownBlock)
    (hat : v'.ownBlock = v.ownBlock ∨ v'.ownBlock = some w1.heap.size) : CS w0 g ca cl cc A w' (Rows T e v' (cs ++ [u]) (xss ++ [ys]) :: ps) := by
  have hsz := h.chg.size
  obtain ⟨⟨A0, h0'⟩, hcur, h1, F, ⟨F1, F2, rfl, hd, ⟨hr, hn⟩, ⟨F3, F4, rfl, hd', ⟨G, rfl, hn', hall, hown⟩, h5⟩⟩, h3⟩ := h
  have hr1 := Ty.row_keep hr fun b hm => hb.block b (Ty.row_lt hr b hm)
  have hall1 := Ty.all_keep hall fun b hm => hb.block b (Ty.all_lt hall b hm)
  have h51 := sep_keep h5 fun b hm => hb.block b (sep_lt h5 b hm)
  have hkeep : ∀ b, b < w.heap.size → (∀ g, v.ownBlock = some g → b ≠ g) → w'.heap[b]? = w1.heap[b]? := fun b hlt hne => hg.block b (Nat.lt_of_lt_of_le hlt hb.size) (fun e => hne b e.symm rfl)
  have hr2 := Ty.row_keep hr1 fun b hm => hkeep b (Ty.row_lt hr b hm) fun g hg' e => hd b hm (by simp [hg', e])
  have hnG : ∀ b ∈ G, ∀ g, v.ownBlock = some g → b ≠ g := fun b hm g hg' e => by
    rw [List.nodup_append] at hn'
    exact hn'.2.2 g (by simp [hg']) b hm e.symm
  have hall2 := Ty.all_keep hall1 fun b hm => hkeep b (Ty.all_lt hall b hm) (hnG b hm)
  have h52 := sep_keep h51 fun b hm => hkeep b (sep_lt h5 b hm) fun g hg' e => hd' b (by simp [hg', e]) hm
  have hlv : ∀ b ∈ v'.ownBlock.toList, b ∈ v.ownBlock.toList ∨ b = w1.heap.size := fun b hm => by
    rcases hat with h | h
    · left; rwa [h] at hm
    · right; rw [h] at hm; simpa using hm
  have hs := hb.size
  have hold : ∀ k, k < w0.heap.size → w'.heap[k]? = w.heap[k]? := fun k hk => (hkeep k (by omega) fun g hg' e => by have := h3 g (by simp [hg']); omega).trans (hb.block k (by omega))
  have hchg : Chg [g] w0 w' := ⟨hg.os.trans (hb.os.trans h1.os), hg.tape.trans (hb.tape.trans h1.tape), hg.output.trans (hb.output.trans h1.output), by have := hg.size; omega, fun k hk hn => (hold k hk).trans (h1.block k hk hn)⟩
  refine ⟨⟨A0, h0'⟩, h0'.stay hcur hold, hchg, (v'.ownBlock.toList ++ (G ++ F1)) ++ F4, ⟨_, F4, rfl, ?_, ⟨G ++ F1, rfl, ?_, ?_, by simpa using ho⟩, h52⟩, ?_⟩
  · intro b hm hm4
    rcases List.mem_append.1 hm with hm | hm
    · rcases hlv b hm with h | h
      · exact hd' b (List.mem_append.2 (.inl h)) hm4
      · have := sep_lt h5 b hm4; omega
    · rcases List.mem_append.1 hm with hm | hm
      · exact hd' b (List.mem_append.2 (.inr hm)) hm4
      · exact hd b hm (List.mem_append.2 (.inr hm4))
  · refine List.nodup_append.2 ⟨by cases v'.ownBlock <;> simp, List.nodup_append.2 ⟨(List.nodup_append.1 hn').2.1, hn, fun x hx y hy e => hd y hy (by simp [← e, hx])⟩, fun x hx y hy e => ?_⟩
    subst e
    rcases hlv x hx with h | h
    · rcases List.mem_append.1 hy with hy | hy
      · exact (List.nodup_append.1 hn').2.2 x h x hy rfl
      · exact hd x hy (List.mem_append.2 (.inl (List.mem_append.2 (.inl h))))
    · rcases List.mem_append.1 hy with hy | hy
      · have := Ty.all_lt hall x hy; omega
      · have := Ty.row_lt hr x hy; omega
  · exact Ty.all_snoc hall2 ⟨u, rfl, hr2⟩
  · intro b hm
    rcases List.mem_append.1 hm with hm | hm
    · rcases List.mem_append.1 hm with hm | hm
      · rcases hlv b hm with h | h
        · exact h3 b (by simp at h ⊢; simp [h])
        · omega
      · rcases List.mem_append.1 hm with hm | hm
        · exact h3 b (by simp [hm])
        · exact h3 b (by simp [hm])
    · exact h3 b (by simp [hm])
/-- The finished row of rows. -/
theorem CS.rows_done (h : CS w0 g ca cl cc A w ps) (hi : ps[i]? = some (Rows T e v cs xss)) : ∃ F, (Ty.slice T).row true w v xss F ∧ F.Nodup ∧ (∀ b ∈ F, w0.heap.size ≤ b) := by
  obtain ⟨F, ⟨G, rfl, hn, hall, hown⟩, hF⟩ := h.get hi
  obtain ⟨F', hr, hF', _⟩ := Ty.row_of_owns hown rfl (by decide) hall
  rcases hF' with rfl | ⟨g, _, _, ho, rfl⟩
  · exact ⟨[], hr, by simp, by simp⟩
  · refine ⟨g :: G, hr, ?_, ?_⟩
    · rw [ho] at hn; simpa using hn
    · rw [ho] at hF; simpa using hF
end
end Go.Proofs.YtahbepajeplcmaaGreat

/- Contracts: Cnfs compared in the laws; rows and lists of rows copied, on both sides. -/
namespace Go.Proofs.YtahbepajeplcmaaGreat
open Go.RowKit

set_option maxRecDepth 100000 in
set_option maxHeartbeats 4000000 in
theorem vTable_same (A A' : Option Addr) (c c' : Nat) (xss : List (List Int)) (w : World) (hx : ClsAt w A xss) (hy : ClsAt w A' xss) (hl : xss.length ≤ 1000000) (hs : ∀ c ∈ xss, c.length ≤ 1000000) :
    Calls Tryz.prog 30 #[.slice A xss.length c, .slice A' xss.length c'] w fun e w' => e = .returned (.bool true) ∧ Below w.heap.size w w' := by
  have hN := Lib.hid hx
  have hM := Lib.hid hy
  have hS := Lib.hid hs
  clear hx hy hs
  go_enter Tryz.func30, Tryz.ntmps30
  go_wp2_with fail
  go_loopw [5] (fun i wr => ∃ k : Nat, k ≤ xss.length ∧ i = .int .i64 k ∧ Hid (Below w.heap.size w wr)) (fun i _ => xss.length - (intOf i).toNat)
  case atStart => exact ⟨0, Nat.zero_le _, rfl, bb _⟩
  case round =>
    obtain ⟨k, hk, rfl, HS⟩ := hrel
    by_cases hlt : k < xss.length
    · obtain ⟨b, off, D, dc, rfl, m0, hI⟩ := (hN.out.grow HS.out).at_ k hlt
      obtain ⟨b', off', E, ec, rfl, p0, hJ⟩ := (hM.out.grow HS.out).at_ k hlt
      have hcall := Lib.hid (fun W (h : Below wr.heap.size wr W) => vInts_same D E dc ec xss[k] W (hI.grow h) (hJ.grow h) (hS.out _ (List.getElem_mem hlt)))
      have k0 := cell_regrown m0
      have q0 := cell_regrown p0
      generalize xss[k] = v at *
      clear m0 p0 hI hJ
      go_wp2_with fail
      refine wp_region_quiet_below (by kernel_rfl) (by kernel_rfl) ?_
      repeat (any_goals (first | go_big_quiet_step ((go_at_call 58; exact Calls.regrown_of (hcall.out _ (below_regrown _ _ _))))))
      refine wpQuiet_nil ?_
      rintro w3 ⟨p, rfl⟩
      have HS4 := Lib.hid (btr HS.out (below_regrown _ p.d p.os))
      clear HS k0 q0 hcall
      go_wp2_with fail
      go_roundw
      case rel => exact ⟨k + 1, by omega, by go_num, HS4⟩
      case measure => simp [intOf]; omega
    · obtain rfl : k = xss.length := by omega
      have hB := HS.out
      go_wp2_with fail
      go_ret
      exact ⟨rfl, hB⟩

set_option maxHeartbeats 2000000 in
theorem vCnf_same (vars : Int) (A A' : Option Addr) (c c' : Nat) (xss : List (List Int)) (w : World) (hx : ClsAt w A xss) (hy : ClsAt w A' xss) (hl : xss.length ≤ 1000000) (hs : ∀ c ∈ xss, c.length ≤ 1000000) :
    Calls Tryz.prog 8 #[.agg #[.int .i64 vars, .slice A xss.length c], .agg #[.int .i64 vars, .slice A' xss.length c']] w fun e w' => e = .returned (.bool true) ∧ Below w.heap.size w w' := by
  have S0 := ((Sp.start w).alloc_box #[.int .i64 vars, .slice A xss.length c] 28).alloc_box #[.int .i64 vars, .slice A' xss.length c'] 28
  simp only [World.size_alloc] at S0
  have hcall := Lib.hid (vTable_same A A' c c' xss _ (hx.grow S0.below) (hy.grow S0.below) hl hs)
  have a0 := S0.cell (i := 1) rfl (o := 0) rfl
  have a1 := S0.cell (i := 1) rfl (o := 1) rfl
  have b0 := S0.cell (i := 0) rfl (o := 0) rfl
  have b1 := S0.cell (i := 0) rfl (o := 1) rfl
  replace S0 := Lib.hid S0
  generalize xss.length = m at *
  have hv : (vars == vars) = true := by simp
  clear hx hy hs
  go_enter Tryz.func8, Tryz.ntmps8
  go_wp2_with fail
  refine hcall.out.mono ?_
  rintro e w1 ⟨rfl, hb1⟩
  have hB := Lib.hid (S0.out.grow hb1).below
  clear S0 hcall hb1 a0 a1 b0 b1
  go_wp2_with fail
  go_ret
  exact ⟨rfl, hB.out⟩

/-- A copy of a row of numbers. -/
theorem cloneA_any (A : Option Addr) (cap : Nat) (xs : List Int) (w : World) (hx : IntsAt w A xs) (hl : xs.length ≤ 1000000) :
    Calls Tryz.prog 54 #[.slice A xs.length cap] w (OneI w xs) := by
  rcases Nat.eq_zero_or_pos xs.length with h0 | h0
  · obtain rfl : xs = [] := List.length_eq_zero_iff.1 h0
    cases A with
    | none =>
      refine (Tryz.slices_Clone_int_nil 0 cap w).mono ?_
      rintro e w' ⟨rfl, rfl⟩
      exact ⟨none, 0, rfl, (Sp.start _).own_nil _ _⟩
    | some a =>
      refine (Tryz.slices_Clone_int_zero a cap w).mono ?_
      rintro e w' ⟨v, rfl, ho, -, hb⟩
      have S := (Sp.start w).own_new hb (owns_zero ho) (owns_ge ho)
      obtain ⟨B, c, rfl⟩ := own_slice ho
      exact ⟨B, c, rfl, S⟩
  · obtain ⟨b, off, rfl, -⟩ := hx.at_ 0 h0
    have h := Tryz.slices_Clone_int b off xs.length cap xs w (Nat.le_refl _) (by omega) fun j hj => by
      obtain ⟨b', off', e, h1⟩ := hx.at_ j hj
      cases e
      rw [h1, List.getD_eq_getElem?_getD, List.getElem?_eq_getElem hj]; rfl
    refine h.mono ?_
    rintro e w' ⟨v, rfl, ho, -, hb⟩
    rw [List.take_length] at ho
    have S := (Sp.start w).own_new hb (owns_zero ho) (owns_ge ho)
    obtain ⟨B, c, rfl⟩ := own_slice ho
    exact ⟨B, c, rfl, S⟩

set_option maxHeartbeats 1000000 in
theorem l1OwnI_any (A : Option Addr) (cap : Nat) (xs : List Int) (w : World) (hx : IntsAt w A xs) (hl : xs.length ≤ 1000000) :
    Calls Tryz.prog 57 #[.slice A xs.length cap] w (OneI w xs) := by
  obtain ⟨i0, hi, hz0, hz1, hz2⟩ := info_parts infoInt
  have S0 := (Sp.start w).own_made 3 1
  have hsrc := ints_src (hx.grow S0.below) rfl
  replace S0 := Lib.hid S0
  replace hsrc := Lib.hid hsrc
  clear hx
  go_enter Tryz.func57, Tryz.ntmps57
  go_wp2_with (at_builtin; refine wpList_append_src rfl _ _ rfl Tryz.underlying35 hi hz0 hz1 hz2 rfl (by decide) _ _ _ rfl (S0.out.own (i := 0) rfl) A xs.length cap _ rfl hsrc.out (ints_one xs) ?c3 ?c4 ?_)
  case c3 => unfold maxLen; omega
  case c4 => omega
  intro v' w1 hown hg hat
  have S1 := S0.out.own_push (i := 0) rfl (bb _) hown hg (by simpa using hat)
  obtain ⟨a, c', rfl⟩ := own_slice hown
  replace S1 := Lib.hid S1
  clear hown hg hat S0
  go_wp2_with fail
  go_ret
  exact ⟨a, c', rfl, S1.out⟩
end Go.Proofs.YtahbepajeplcmaaGreat

/- Contracts: lists of rows copied, on both sides. -/
namespace Go.Proofs.YtahbepajeplcmaaGreat
open Go.RowKit Go.Shelf

/-- Rows of the call's own. -/
def RowsP (w : World) (xss : List (List Int)) (e : Ending) (w' : World) : Prop := ∃ B cap cs, e = .returned (.slice B xss.length cap) ∧ Sp w w' [Rows Ty.int 35 (.slice B xss.length cap) cs xss]
theorem take_snoc {α : Type} {l : List α} {k : Nat} (h : k < l.length) : l.take k ++ [l[k]] = l.take (k + 1) := (List.take_succ_eq_append_getElem h).symm

set_option maxRecDepth 100000 in
set_option maxHeartbeats 4000000 in
theorem cloneLists_any (cls : List (List Int)) (A : Option Addr) (cap : Nat) (w : World) (hx : ClsAt w A cls) (hl : cls.length ≤ 1000) (hs : ∀ c ∈ cls, c.length ≤ 1000000) :
    Calls Tryz.prog 33 #[.slice A cls.length cap] w (RowsP w cls) := by
  obtain ⟨i1, hi, hz0, hz1, hz2⟩ := info_parts infoRow
  have S0 := Lib.hid ((Sp.start w).rows_nil Ty.int 35)
  have hX := Lib.hid hx
  have hS := Lib.hid hs
  clear hx hs
  go_enter Tryz.func33, Tryz.ntmps33
  go_wp2_with fail
  go_loopw [3, 5, 8] (fun v3 _ v8 wr => ∃ (k : Nat) (B : Option Addr) (cc : Nat) (cs : List Value) (ys : List (List Int)), k ≤ cls.length ∧ v8 = .int .i64 k ∧ v3 = .slice B ys.length cc ∧ ys.length = k ∧ Hid (ys = cls.take k) ∧ Hid (Sp w wr [Rows Ty.int 35 (.slice B ys.length cc) cs ys])) (fun _ _ v8 _ => cls.length - (intOf v8).toNat)
  case atStart => exact ⟨0, none, 0, [], [], Nat.zero_le _, rfl, rfl, rfl, rfl, S0⟩
  case round =>
    clear S0
    obtain ⟨k, B, cc, cs, ys, hk, rfl, rfl, hyk, hys, HS⟩ := hrel
    by_cases hlt : k < cls.length
    · obtain ⟨ab, aoff, D, dc, rfl, m0, hI⟩ := hX.out.at_ k hlt
      have n0 := cell_below m0 HS.out.below
      have hcl := Lib.hid (cloneA_any D dc cls[k] _ (hI.grow HS.out.below) (hS.out _ (List.getElem_mem hlt)))
      have hok := Lib.hid hI.ok
      have hnx : Hid (ys ++ [cls[k]] = cls.take (k + 1)) := by unfold Hid; rw [hys.out, take_snoc hlt]
      generalize cls[k] = c at *
      clear m0 hI hys
      replace hyk := Lib.hid hyk
      go_wp2_with fail
      refine hcl.out.mono ?_
      rintro e w2 ⟨E, ec, rfl, T⟩
      have S3 := Sp.own_to_row (HS.out.seq T) hok.out
      have hrows := Lib.hid ((S3.rows (i := 1) rfl).alloc (.cells #[.slice E c.length ec] 35))
      have kB : (w2.alloc (.cells #[.slice E c.length ec] 35)).cell? ⟨w2.heap.size, 0, none⟩ = some (.slice E c.length ec) := cell_of_row _ _ _ _ _ _ (heap_alloc_new w2 _)
      have S4 := Lib.hid (S3.alloc (.cells #[.slice E c.length ec] 35))
      have hyl : ys.length ≤ 1000 := by have := hyk.out; omega
      clear HS T S3 n0 hcl
      go_wp2_with (at_builtin; refine wpList_append_src rfl _ _ rfl Tryz.underlying26 hi hz0 hz1 hz2 rfl (by decide) _ ys.length _ rfl hrows.out _ 1 1 [.slice E c.length ec] rfl (Src.one kB) (by simp [Value.oneCell']) ?c3 ?c4 ?_)
      case c3 => unfold maxLen; omega
      case c4 => omega
      intro vY wY hownY hgY hatY
      have S5 := S4.out.rows_push (bb _) hownY hgY (by simpa using hatY)
      obtain ⟨aY, cY, rfl⟩ := own_slice hownY
      have hlen : ys.length + 1 = (ys ++ [c]).length := by simp
      rw [hlen] at S5 ⊢
      have hyk2 : (ys ++ [c]).length = k + 1 := by rw [← hlen, hyk.out]
      clear S4 hrows kB hownY hgY hatY hlen hyk hyl
      replace S5 := Lib.hid S5
      replace hyk2 := Lib.hid hyk2
      generalize ys ++ [c] = ys2 at *
      go_wp2_with fail
      go_roundw
      case rel => exact ⟨k + 1, aY, cY, cs ++ [.slice E c.length ec], ys2, by omega, by go_num, rfl, hyk2.out, hnx, S5⟩
      case measure => simp [intOf]; omega
    · obtain rfl : k = cls.length := by omega
      have hy2 : ys = cls := by have := hys.out; rwa [List.take_length] at this
      subst hy2
      clear hys hyk
      go_wp2_with fail
      go_ret
      exact ⟨B, cc, cs, rfl, HS.out⟩
end Go.Proofs.YtahbepajeplcmaaGreat

/- Contracts: two lists of rows put together, in the library. -/
namespace Go.Proofs.YtahbepajeplcmaaGreat
open Go.RowKit Go.Shelf

def growRenL : Go.Shelf.Ren := ⟨fun | 4 => 60 | n => n, fun | 22 => 26 | 25 => 35 | n => n, fun | n => n⟩
theorem growLayL : Lays8.n4 Tryz.prog growRenL := {
  mixed := by kernel_rfl
  f4 := ⟨Tryz.f60.name, by kernel_rfl, Tryz.func60.trans (congrArg some (by kernel_rfl))⟩
  t0 := Tryz.underlying0
  a0 := Tryz.isAgg0
  z0 := Tryz.sizeOf0
  v0 := Tryz.zeroValue0
  t3 := Tryz.underlying3
  a3 := Tryz.isAgg3
  z3 := Tryz.sizeOf3
  v3 := Tryz.zeroValue3
  t4 := Tryz.underlying4
  a4 := Tryz.isAgg4
  z4 := Tryz.sizeOf4
  v4 := Tryz.zeroValue4
  t9 := Tryz.underlying9
  a9 := Tryz.isAgg9
  z9 := Tryz.sizeOf9
  v9 := Tryz.zeroValue9
  t20 := Tryz.underlying20
  a20 := Tryz.isAgg20
  z20 := Tryz.sizeOf20
  v20 := Tryz.zeroValue20
  t22 := Tryz.underlying26
  a22 := Tryz.isAgg26
  z22 := Tryz.sizeOf26
  v22 := Tryz.zeroValue26 }

theorem growL_any (n : Nat) (hn : n ≤ 1000000) (w : World) : Calls Tryz.prog 60 #[.slice none 0 0, .int .i64 n] w fun e w' => ∃ B cc, e = .returned (.slice B 0 cc) ∧ Sp w w' [Own 35 1 (.slice B 0 cc) 0 []] := by
  obtain ⟨i1, hi, hz0, hz1, hz2⟩ := info_parts infoRow
  rcases Nat.eq_zero_or_pos n with rfl | h0
  · refine (Any8.slices_Grow_room growLayL none 0 0 0 w (by decide) (by decide) (by decide) (by decide)).mono ?_
    rintro e w' ⟨rfl, rfl⟩
    exact ⟨none, 0, rfl, (Sp.start _).own_nil _ _⟩
  · have h := Any8.slices_Grow_grow growLayL i1 _ hi hz0 (by omega) none 0 0 n [] w (by decide) (by omega) (by rw [hz2]; omega) (by omega) (by simp) (fun _ => rfl) (fun a e => by cases e)
    refine h.mono ?_
    rintro e w' ⟨rfl, rfl⟩
    have hb : Below w.heap.size w w.drew := bdr (bb w)
    have S := (Sp.of_below hb)
    refine ⟨_, _, rfl, S.own_new (bal (bb _) _) (World.ownsRow_made w.drew _ _ (Nat.zero_le _) (grownCap_le_maxLen w _ _ _ (by unfold maxLen; omega)) ?_) fun g hg => ?_⟩
    · have := grownCap_ge w (0 + n) 0 (growRenL.t 25)
      generalize grownCap w (0 + n) 0 (growRenL.t 25) = q at *
      simp only [Array.size_append, size_zeroCells, List.size_toArray, List.length_nil, Value.cells, List.length_cons]
      omega
    · have : g = w.heap.size := by simpa [Value.ownBlock] using hg.symm
      subst this
      exact Nat.le_refl _

def szK (n1 n2 : Nat) : Nat → Nat
  | 0 => 0
  | 1 => n1
  | _ => n1 + n2
def catK (us1 us2 : List Value) : Nat → List Value
  | 0 => []
  | 1 => us1
  | _ => us1 ++ us2

set_option maxRecDepth 100000 in
set_option maxHeartbeats 4000000 in
theorem concatL_any (b : Nat) (A1 A2 : Option Addr) (n1 n2 c1 c2 : Nat) (us1 us2 : List Value) (w : World) (h0 : w.cell? ⟨b, 0, none⟩ = some (.slice A1 n1 c1)) (h1 : w.cell? ⟨b, 1, none⟩ = some (.slice A2 n2 c2)) (hs1 : Src w A1 n1 1 us1) (hs2 : Src w A2 n2 1 us2)
    (o1 : ∀ u ∈ us1, u.oneCell' = true) (o2 : ∀ u ∈ us2, u.oneCell' = true) (l1 : n1 ≤ 1000) (l2 : n2 ≤ 1000) :
    Calls Tryz.prog 34 #[.slice (some ⟨b, 0, none⟩) 2 2] w fun e w' => ∃ B cc, e = .returned (.slice B (n1 + n2) cc) ∧ Sp w w' [Own 35 1 (.slice B (n1 + n2) cc) (n1 + n2) (us1 ++ us2)] := by
  obtain ⟨i1, hi, hz0, hz1, hz2⟩ := info_parts infoRow
  have key : Hid (∀ k, k < 2 → ∃ A n c us, w.cell? ⟨b, k, none⟩ = some (.slice A n c) ∧ Src w A n 1 us ∧ (∀ u ∈ us, u.oneCell' = true) ∧ n ≤ 1000 ∧ szK n1 n2 (k + 1) = szK n1 n2 k + n ∧ catK us1 us2 (k + 1) = catK us1 us2 k ++ us) := fun k hk => by
    rcases k with _ | _ | k
    · exact ⟨A1, n1, c1, us1, h0, hs1, o1, l1, by simp [szK], by simp [catK]⟩
    · exact ⟨A2, n2, c2, us2, h1, hs2, o2, l2, rfl, rfl⟩
    · omega
  have hle : ∀ k, szK n1 n2 k ≤ 2000 := fun k => by
    rcases k with _ | _ | k <;> simp only [szK] <;> omega
  have hS0 : Hid (szK n1 n2 0 = 0) := rfl
  have hC0 : Hid (catK us1 us2 0 = []) := rfl
  have hS2 : Hid (szK n1 n2 2 = n1 + n2) := rfl
  have hC2 : Hid (catK us1 us2 2 = us1 ++ us2) := rfl
  replace hle := Lib.hid hle
  generalize szK n1 n2 = sz at *
  generalize catK us1 us2 = ct at *
  obtain ⟨m, hm⟩ : ∃ m, n1 + n2 = m := ⟨_, rfl⟩
  rw [hm] at hS2 ⊢
  clear hm h0 h1 hs1 hs2 o1 o2 l1 l2
  go_enter Tryz.func34, Tryz.ntmps34
  go_wp2_with fail
  go_loopw [3, 5, 11] (fun v3 _ v11 wr => ∃ (k z : Nat), k ≤ 2 ∧ v11 = .int .i64 k ∧ v3 = .int .i64 z ∧ z ≤ 2000 ∧ Hid (sz k = z) ∧ Hid (Below w.heap.size w wr)) (fun _ _ v11 _ => 2 - (intOf v11).toNat)
  case atStart => exact ⟨0, 0, by omega, rfl, rfl, by omega, hS0, bb _⟩
  case round =>
    obtain ⟨k, z, hk, rfl, rfl, hz, hsz, HB⟩ := hrel
    by_cases hlt : k < 2
    · obtain ⟨Ak, nk, ck, us, hc, -, -, hnk, hsn, -⟩ := key.out k hlt
      have hc2 := cell_below hc HB.out
      have hzn : Hid (sz (k + 1) = z + nk) := by unfold Hid; rw [hsn, hsz.out]
      have hyb : z + nk ≤ 2000 := by have := hle.out (k + 1); rw [hzn.out] at this; exact this
      have hwr : IntKind.i64.wrap ((z : Int) + nk) = ((z + nk : Nat) : Int) := by rw [IntWalk.i64_in _ (by omega)]; omega
      obtain ⟨y, hy⟩ : ∃ y, z + nk = y := ⟨_, rfl⟩
      rw [hy] at hwr hyb hzn
      have hneg : decide ((y : Int) < 0) = false := decide_eq_false (by omega)
      replace hy := Lib.hid hy
      clear hc hsn
      have hwr2 := hwr
      go_wp2_with fail
      go_roundw
      case rel => exact ⟨k + 1, y, by omega, by go_num, rfl, hyb, hzn, HB⟩
      case measure => simp [intOf]; omega
    · obtain rfl : k = 2 := by omega
      obtain rfl : z = m := by rw [← hsz.out]; exact hS2.out
      have hgr := Lib.hid (growL_any z (by omega) wr)
      have S0 := Lib.hid (Sp.of_below HB.out)
      clear HB hsz
      go_wp2_with fail
      refine hgr.out.mono ?_
      rintro e w2 ⟨B, cc, rfl, T⟩
      have S1 : Hid (Sp w w2 [Own 35 1 (.slice B 0 cc) 0 []]) := S0.out.seq T
      clear hgr S0 T
      go_wp2_with fail
      go_loopw [6, 8, 27] (fun v6 _ v27 wr => ∃ (k y : Nat) (B : Option Addr) (cc : Nat) (us : List Value), k ≤ 2 ∧ v27 = .int .i64 k ∧ v6 = .slice B y cc ∧ y ≤ 2000 ∧ Hid (sz k = y) ∧ Hid (ct k = us) ∧ Hid (Sp w wr [Own 35 1 (.slice B y cc) y us])) (fun _ _ v27 _ => 2 - (intOf v27).toNat)
      case atStart => exact ⟨0, 0, B, cc, [], by omega, rfl, rfl, by omega, hS0, hC0, S1⟩
      case round =>
        clear S1
        obtain ⟨k, y, B, cc, us, hk, rfl, rfl, hyl, hsy, hcy, HS⟩ := hrel
        by_cases hlt : k < 2
        · obtain ⟨Ak, nk, ck, vs, hc, hsr, ho, hnk, hsn, hcn⟩ := key.out k hlt
          have hc2 := cell_below hc HS.out.below
          have hsr2 := Lib.hid (hsr.grow HS.out.below)
          have hoH := Lib.hid ho
          have hzn : Hid (sz (k + 1) = y + nk) := by unfold Hid; rw [hsn, hsy.out]
          have hyb : y + nk ≤ 2000 := by have := hle.out (k + 1); rw [hzn.out] at this; exact this
          have hcn2 : Hid (ct (k + 1) = us ++ vs) := by unfold Hid; rw [hcn, hcy.out]
          clear hc hsr ho hsn hcn
          go_wp2_with (at_builtin; refine wpList_append_src rfl _ _ rfl Tryz.underlying26 hi hz0 hz1 hz2 rfl (by decide) _ _ _ rfl (HS.out.own (i := 0) rfl) Ak nk ck vs rfl hsr2.out hoH.out ?c3 ?c4 ?_)
          case c3 => unfold maxLen; omega
          case c4 => omega
          intro vY wY hownY hgY hatY
          have S5 := Lib.hid (HS.out.own_push (i := 0) rfl (bb _) hownY hgY (by simpa using hatY))
          obtain ⟨aY, cY, rfl⟩ := own_slice hownY
          clear HS hownY hgY hatY hsr2 hoH
          obtain ⟨q, hq⟩ : ∃ q, y + nk = q := ⟨_, rfl⟩
          rw [hq] at S5 hzn hyb ⊢
          clear hq
          go_wp2_with fail
          go_roundw
          case rel => exact ⟨k + 1, q, aY, cY, us ++ vs, by omega, by go_num, rfl, hyb, hzn, hcn2, S5⟩
          case measure => simp [intOf]; omega
        · obtain rfl : k = 2 := by omega
          obtain rfl : y = z := by rw [← hsy.out]; exact hS2.out
          have S5 := HS.out
          rw [← hcy.out, hC2.out] at S5
          replace S5 := Lib.hid S5
          clear HS
          go_wp2_with fail
          go_ret
          exact ⟨B, cc, rfl, S5.out⟩
end Go.Proofs.YtahbepajeplcmaaGreat

/- Contracts: clauses joined and resolved in the reference, told weakly. -/
namespace Go.Proofs.YtahbepajeplcmaaGreat
open Go.RowKit

/-- A row of its own within bounds, and a flag. -/
def JoinW (n : Nat) (w : World) (e : Ending) (w' : World) : Prop :=
  ∃ v c q, e = .returned (.tuple #[v, .bool q]) ∧ w'.ownsRow w.heap.size 3 1 v c.length (c.map (.int .i64)) ∧ c.length ≤ n ∧ Within 1000 c ∧ Below w.heap.size w w'
theorem Sp.drop2w {w0 w : World} {p q : Asn} {ps : List Asn} (h : Sp w0 w (p :: q :: ps)) : Sp w0 w (p :: ps) := h.swap.tail

set_option maxRecDepth 100000 in
set_option maxHeartbeats 4000000 in
theorem l2JoinW_any (v u : Value) (a b : List Int) (F G : List Nat) (w : World) (hx : Ty.int.row false w v a F) (hy : Ty.int.row false w u b G) (wa : Within 1000 a) (wb : Within 1000 b) (la : a.length ≤ 1000) (lb : b.length ≤ 1000) :
    Calls Tryz.prog 82 #[v, u] w (JoinW (a.length + b.length) w) := by
  obtain ⟨aa, ac, rfl, _, _⟩ := Ty.row_len hx
  obtain ⟨ba, bc, rfl, hy1, hy2, _, hy3⟩ := row_int hy
  go_enter Tryz.func82, Tryz.ntmps82
  go_wp2_with fail
  refine (l1Own_any _ a F w hx (by omega)).mono ?_
  rintro e w1 ⟨v1, rfl, ho1, hb1⟩
  have S0 := (Sp.start w).own_call hb1 ho1
  obtain ⟨a1, c1, rfl⟩ := owns_form ho1
  replace S0 := Lib.hid S0
  have hW0 := Lib.hid wa
  clear ho1 hb1
  go_wp2_with fail
  go_loopw [6, 7] (fun s i wr => ∃ (k : Nat) (out : List Int), k ≤ b.length ∧ i = .int .i64 k ∧ out.length ≤ a.length + k ∧ Hid (Within 1000 out) ∧ Hid (Sp w wr [Own 3 1 s out.length (out.map (.int .i64))])) (fun _ i _ => b.length - (intOf i).toNat)
  case atStart => exact ⟨0, a, Nat.zero_le _, rfl, by omega, hW0, S0⟩
  case round =>
    obtain ⟨k, out, hk, rfl, hol, HW, HS⟩ := hrel
    clear S0
    obtain ⟨sa, sc, rfl⟩ := owns_form (HS.out.own (i := 0) rfl)
    by_cases hlt : k < b.length
    · rcases hy3 with ⟨rfl, rfl⟩ | ⟨hyn, bk, off, rfl, rfl, hyc⟩
      · exact absurd hlt (by simp)
      have hB := HS.out.below
      have k0 := ((hyc k hlt).keep (hB.block bk (hyc k hlt).lt)).1
      have hl6 := wb _ (List.getElem_mem hlt)
      obtain ⟨H, hrow', -, -⟩ := own_row (HS.out.own (i := 0) rfl) (HW.out.i64 (by decide))
      have hrow := Ty.row_down hrow'
      obtain ⟨l, hl⟩ : ∃ l, l = b[k] := ⟨_, rfl⟩
      rw [← hl] at k0 hl6
      have hneg : wrap64 (-l) = -l := by unfold wrap64; omega
      have hl0 : -1000 ≤ l := hl6.1
      have hl1 : l ≤ 1000 := hl6.2
      replace hl := Lib.hid hl
      clear hyc hB hl hl6 hrow'
      cases hq : hasI out (-l)
      · cases hq2 : hasI out l
        · have HN := Lib.hid (within_put HW.out ⟨hl0, hl1⟩)
          have hpl := Lib.hid (put_len out l)
          have hol9 : out.length ≤ 1000000000 := by omega
          go_wp2_with (first
            | (go_at_call 96; (first | (with_reducible refine (l2Has_at hrow hq).mono ?_) | (with_reducible refine (l2Has_at hrow hq2).mono ?_)); rintro e w2 ⟨rfl, rfl⟩)
            | (go_at_call 90; (with_reducible refine (l2Put_any _ out l H _ hrow hol9).mono ?_); rintro e w2 ⟨v2, rfl, ho2, hb2⟩))
          have S1 := (HS.out.own_call hb2 ho2).drop2w
          obtain ⟨a2, c2, rfl⟩ := owns_form ho2
          replace S1 := Lib.hid S1
          clear ho2 hb2 HS hrow
          generalize putB out l = out2 at *
          go_wp2_with fail
          go_roundw
          case rel => exact ⟨k + 1, out2, by omega, by go_num, by rw [hpl.out]; omega, HN, S1⟩
          case measure => simp [intOf]; omega
        · go_wp2_with (first
            | (go_at_call 96; (first | (with_reducible refine (l2Has_at hrow hq).mono ?_) | (with_reducible refine (l2Has_at hrow hq2).mono ?_)); rintro e w2 ⟨rfl, rfl⟩))
          go_roundw
          case rel => exact ⟨k + 1, out, by omega, by go_num, by omega, HW, HS⟩
          case measure => simp [intOf]; omega
      · go_wp2_with (first
          | (go_at_call 96; (first | (with_reducible refine (l2Has_at hrow hq).mono ?_)); rintro e w2 ⟨rfl, rfl⟩))
        have S1 := Lib.hid (HS.out.own_made 3 1)
        go_ret2
        exact ⟨_, [], false, rfl, S1.out.owns_end (i := 0) rfl, by simp, fun x hx => by simp at hx, S1.out.below⟩
    · obtain rfl : k = b.length := by omega
      go_wp2_with fail
      go_ret2
      exact ⟨_, out, true, rfl, HS.out.owns_end (i := 0) rfl, by omega, HW.out, HS.out.below⟩

/- left out: the seat has no spec.l2Resolve -/
end Go.Proofs.YtahbepajeplcmaaGreat

/- Plain facts: clauses of up to a thousand variables: literals in order, put in, joined. No program in sight. -/
namespace Go.Proofs.YtahbepajeplcmaaGreat
open Go.RowKit

theorem hasS_iff {xs : List Int} {x : Int} : hasI xs x = true ↔ x ∈ xs := by unfold hasI; simp
theorem hasS_not {xs : List Int} {x : Int} : hasI xs x = false ↔ x ∉ xs := by rw [← hasS_iff]; simp
theorem LitS.abs {l : Int} (h : LitS l) : absV l = if l < 0 then -l else l := by
  rw [absV_lit h]; split <;> omega
def AscS (x y : Int) : Prop := absV x < absV y
/-- A clause in order. -/
structure GoodS (c : List Int) : Prop where
  mem : ∀ l ∈ c, LitS l
  asc : c.Pairwise AscS
theorem good_s {vars : Int} {c : List Int} (h : clauseB vars c = true) : GoodS c := by
  have h1 := (clause_s h).1
  refine ⟨h1, ?_⟩
  have h2 := clause_rising h
  rw [List.pairwise_iff_getElem] at h2 ⊢
  intro i j hi hj hij
  unfold AscS
  rw [absV_lit (h1 _ (List.getElem_mem hi)), absV_lit (h1 _ (List.getElem_mem hj))]
  exact Int.ofNat_lt.2 (h2 i j hi hj hij)
theorem GoodS.clash {c : List Int} (h : GoodS c) {x : Int} (hx : x ∈ c) (hy : -x ∈ c) : False := by
  have hl := h.mem x hx
  have key : ∀ {y z : Int}, y ∈ c → z ∈ c → absV y = absV z → y = z := fun {y z} hy hz e => by
    obtain ⟨i, hi, rfl⟩ := List.getElem_of_mem hy
    obtain ⟨j, hj, rfl⟩ := List.getElem_of_mem hz
    have hp := List.pairwise_iff_getElem.1 h.asc
    rcases Nat.lt_trichotomy i j with hij | hij | hij
    · have := hp i j hi hj hij; unfold AscS at this; omega
    · subst hij; rfl
    · have := hp j i hj hi hij; unfold AscS at this; omega
  have := key hx hy (by rw [hl.abs, (h.mem _ hy).abs]; unfold LitS at hl; split <;> split <;> omega)
  unfold LitS at hl
  omega
theorem GoodS.ext {a b : List Int} (ha : GoodS a) (hb : GoodS b) (h : ∀ x, x ∈ a ↔ x ∈ b) : a = b := by
  have key : ∀ {a b : List Int}, a.Pairwise AscS → b.Pairwise AscS → (∀ x, x ∈ a ↔ x ∈ b) → a = b := by
    intro a
    induction a with
    | nil =>
      intro b _ _ h
      cases b with
      | nil => rfl
      | cons y b => exact absurd ((h y).2 List.mem_cons_self) (by simp)
    | cons x a ih =>
      intro b ha hb h
      cases b with
      | nil => exact absurd ((h x).1 List.mem_cons_self) (by simp)
      | cons y b =>
        rw [List.pairwise_cons] at ha hb
        unfold AscS at ha hb
        have e : x = y := by
          rcases List.mem_cons.1 ((h x).1 List.mem_cons_self) with e | hx
          · exact e
          rcases List.mem_cons.1 ((h y).2 List.mem_cons_self) with e | hy
          · exact e.symm
          have := hb.1 x hx; have := ha.1 y hy; omega
        subst e
        congr 1
        refine ih ha.2 hb.2 fun z => ⟨fun hz => ?_, fun hz => ?_⟩
        · rcases List.mem_cons.1 ((h z).1 (List.mem_cons_of_mem _ hz)) with e | h2
          · have := ha.1 z hz; rw [e] at this; omega
          · exact h2
        · rcases List.mem_cons.1 ((h z).2 (List.mem_cons_of_mem _ hz)) with e | h2
          · have := hb.1 z hz; rw [e] at this; omega
          · exact h2
  exact key ha.asc hb.asc h
theorem memS_putB {c : List Int} {l x : Int} : x ∈ putB c l ↔ x = l ∨ x ∈ c := by
  unfold putB
  rw [List.mem_append, List.mem_cons]
  conv => rhs; rw [← List.take_append_drop (litAt c l) c, List.mem_append]
  exact ⟨fun h => by rcases h with h | h | h <;> simp [h], fun h => by rcases h with h | h | h <;> simp [h]⟩
theorem GoodS.put {c : List Int} (h : GoodS c) {l : Int} (hl : LitS l) (hn : ∀ y ∈ c, absV y ≠ absV l) : GoodS (putB c l) := by
  refine ⟨fun x hx => ?_, ?_⟩
  · rcases memS_putB.1 hx with rfl | hx
    · exact hl
    · exact h.mem x hx
  · have e0 := List.takeWhile_append_dropWhile (p := fun x => decide (absV x < absV l)) (l := c)
    have e1 : c.take (litAt c l) = c.takeWhile (fun x => decide (absV x < absV l)) := by
      have := congrArg (List.take (litAt c l)) e0
      rw [← this]; exact List.take_left' rfl
    have e2 : c.drop (litAt c l) = c.dropWhile (fun x => decide (absV x < absV l)) := by
      have := congrArg (List.drop (litAt c l)) e0
      rw [← this]; exact List.drop_left' rfl
    unfold putB
    rw [List.pairwise_append, List.pairwise_cons]
    have hd : ∀ y ∈ c.drop (litAt c l), absV l < absV y := by
      intro y hy
      have hne := hn y (List.mem_of_mem_drop hy)
      rw [e2] at hy
      have hp : (c.dropWhile (fun x => decide (absV x < absV l))).Pairwise AscS := by rw [← e2]; exact h.asc.drop
      cases hdw : c.dropWhile (fun x => decide (absV x < absV l)) with
      | nil => rw [hdw] at hy; cases hy
      | cons z t =>
        have hz : ¬ absV z < absV l := by
          have := List.head_dropWhile_not (fun x => decide (absV x < absV l)) (l := c) (by rw [hdw]; simp)
          simp only [hdw, List.head_cons] at this
          simpa using this
        rw [hdw] at hy hp
        rcases List.mem_cons.1 hy with rfl | hy
        · omega
        · have := (List.pairwise_cons.1 hp).1 y hy
          unfold AscS at this; omega
    have ht : ∀ y ∈ c.take (litAt c l), absV y < absV l := by
      intro y hy
      rw [e1] at hy
      simpa using List.all_eq_true.1 (List.all_takeWhile (p := fun x => decide (absV x < absV l)) (l := c)) y hy
    exact ⟨h.asc.take, ⟨hd, h.asc.drop⟩, fun a ha b hb => by
      rcases List.mem_cons.1 hb with rfl | hb
      · exact ht a ha
      · have := ht a ha; have := hd b hb; show absV a < absV b; omega⟩

def joinS (out : List Int) : List Int → Option (List Int)
  | [] => some out
  | l :: b => if hasI out (-l) then none else joinS (if hasI out l then out else putB out l) b
theorem joinS_spec : ∀ {b out : List Int}, GoodS out → GoodS b →
    (joinS out b = none ∧ ∃ l ∈ b, -l ∈ out) ∨ (∃ c, joinS out b = some c ∧ GoodS c ∧ (∀ x, x ∈ c ↔ x ∈ out ∨ x ∈ b) ∧ ∀ l ∈ b, -l ∉ out)
  | [], out, ho, _ => .inr ⟨out, rfl, ho, by simp, by simp⟩
  | l :: b, out, ho, hb => by
    have hl := hb.mem l List.mem_cons_self
    have hb2 : GoodS b := ⟨fun x hx => hb.mem x (List.mem_cons_of_mem _ hx), (List.pairwise_cons.1 hb.asc).2⟩
    have hlb : ∀ x ∈ b, absV l < absV x := (List.pairwise_cons.1 hb.asc).1
    unfold joinS
    by_cases hc : -l ∈ out
    · rw [if_pos (hasS_iff.2 hc)]
      exact .inl ⟨rfl, l, List.mem_cons_self, hc⟩
    · rw [if_neg (by rw [hasS_iff]; exact hc)]
      have hout : ∃ out', (if hasI out l then out else putB out l) = out' ∧ GoodS out' ∧ ∀ x, x ∈ out' ↔ x = l ∨ x ∈ out := by
        by_cases h : l ∈ out
        · rw [if_pos (hasS_iff.2 h)]
          exact ⟨_, rfl, ho, fun x => ⟨.inr, fun hx => by rcases hx with rfl | hx; exact h; exact hx⟩⟩
        · rw [if_neg (by rw [hasS_iff]; exact h)]
          refine ⟨_, rfl, ho.put hl fun y hy e => ?_, fun x => memS_putB⟩
          have hy6 := ho.mem y hy
          rw [hy6.abs, hl.abs] at e
          have : y = l ∨ y = -l := by
            have h1 := hy6; have h2 := hl
            unfold LitS at h1 h2
            split at e <;> split at e <;> omega
          rcases this with rfl | rfl
          · exact h hy
          · exact hc hy
      obtain ⟨out', he, hg, hm⟩ := hout
      rw [he]
      rcases joinS_spec hg hb2 with ⟨h1, x, hx, hx2⟩ | ⟨c, h1, h2, h3, h4⟩
      · refine .inl ⟨h1, x, List.mem_cons_of_mem _ hx, ?_⟩
        rcases (hm _).1 hx2 with e | e
        · exfalso
          have h5 := hlb x hx
          have h6 := hb.mem x (List.mem_cons_of_mem _ hx)
          rw [hl.abs, h6.abs] at h5
          unfold LitS at h6 hl
          split at h5 <;> split at h5 <;> omega
        · exact e
      · refine .inr ⟨c, h1, h2, fun x => ?_, fun x hx => ?_⟩
        · rw [h3, hm, List.mem_cons]
          exact ⟨fun h => by rcases h with (h | h) | h <;> simp [h], fun h => by rcases h with h | h | h <;> simp [h]⟩
        · rcases List.mem_cons.1 hx with rfl | hx
          · exact hc
          · exact fun h => h4 x hx ((hm _).2 (.inr h))
end Go.Proofs.YtahbepajeplcmaaGreat

/- Plain facts: literals sorted by their variables, without repetitions. No program in sight. -/
namespace Go.Proofs.YtahbepajeplcmaaGreat
open Go.RowKit

/-- The size of a number, as the program reckons it. -/
def absW (l : Int) : Int := if l < wrap64 (-l) then wrap64 (-l) else l
theorem absW_lit {l : Int} (h : LitS l) : absW l = absV l := by
  rw [h.abs]
  unfold LitS at h
  unfold absW wrap64
  split <;> split <;> omega
/-- The order of literals: by variables, the positive one first. -/
def cmpL (a b : Int) : Int := if absW a < absW b then -1 else if absW b < absW a then 1 else if b < a then -1 else if a < b then 1 else 0
def befL (x y : Int) : Prop := absW x < absW y ∨ (absW x = absW y ∧ y < x)
theorem cmpL_neg {x y : Int} : cmpL x y < 0 ↔ befL x y := by
  unfold cmpL befL
  split
  · simp; omega
  · split
    · simp; omega
    · split
      · simp; omega
      · split <;> simp <;> omega
theorem befL_trans {a b c : Int} (h : befL a b) (k : befL b c) : befL a c := by unfold befL at *; omega
theorem befL_or {x y : Int} (h : ¬ befL y x) : befL x y ∨ x = y := by unfold befL at *; omega
def sortL (zs : List Int) : List Int := zs.mergeSort fun x y => !decide (cmpL y x < 0)
theorem sortL_weak (zs : List Int) : (sortL zs).Pairwise fun a b => befL a b ∨ a = b := by
  have h := List.pairwise_mergeSort (le := fun x y : Int => !decide (cmpL y x < 0)) (fun a b c h1 h2 => by
    simp only [Bool.not_eq_true', decide_eq_false_iff_not, cmpL_neg] at *
    unfold befL at *; omega) (fun a b => by
    simp only [Bool.or_eq_true, Bool.not_eq_true', decide_eq_false_iff_not, cmpL_neg]
    unfold befL; omega) zs
  refine h.imp fun h => befL_or ?_
  simpa only [Bool.not_eq_true', decide_eq_false_iff_not, cmpL_neg] using h
theorem compactR_asc {R : Int → Int → Prop} (ht : ∀ a b c, R a b → R b c → R a c) {l : List Int} (h : l.Pairwise fun a b => R a b ∨ a = b) : (Lib.compact l).Pairwise R := by
  unfold Lib.compact Lib.compactUpTo
  rw [List.pairwise_map]
  have hr : ((List.range l.length).filter (Lib.keeps l.toArray)).Pairwise (· < ·) := List.Pairwise.filter _ List.pairwise_lt_range
  refine hr.imp_of_mem fun {i j} hi hj hij => ?_
  have hil := List.mem_range.1 (List.mem_filter.1 hi).1
  have hjl := List.mem_range.1 (List.mem_filter.1 hj).1
  have hk := (List.mem_filter.1 hj).2
  rw [bangI hil, bangI hjl]
  have hget := List.pairwise_iff_getElem.1 h
  have hne : l[j] ≠ l[j - 1]'(by omega) := fun e => by
    have : Lib.keeps l.toArray j = false := Lib.keeps_neg (by omega) (by rw [bangI hjl, bangI (by omega)]; exact e)
    rw [this] at hk; cases hk
  have h1 : R (l[j - 1]'(by omega)) l[j] := by
    rcases hget (j - 1) j (by omega) hjl (by omega) with h | h
    · exact h
    · exact absurd h.symm hne
  by_cases e : i = j - 1
  · subst e; exact h1
  · rcases hget i (j - 1) hil (by omega) (by omega) with h | h
    · exact ht _ _ _ h h1
    · rw [h]; exact h1
def cptL (zs : List Int) : List Int := Lib.compact (sortL zs)
theorem cptL_asc (zs : List Int) : (cptL zs).Pairwise befL := by
  unfold cptL
  exact compactR_asc (R := befL) (fun _ _ _ => befL_trans) (sortL_weak zs)
theorem cptL_mem {zs : List Int} {x : Int} : x ∈ cptL zs ↔ x ∈ zs := by unfold cptL sortL; rw [compactI_mem, List.mem_mergeSort]
theorem cptL_len (zs : List Int) : (cptL zs).length ≤ zs.length := by
  have := Lib.compact_length_le (sortL zs)
  unfold cptL
  have h2 : (sortL zs).length = zs.length := List.length_mergeSort _
  omega
/-- No literal is followed by its negation, up to a place. -/
def okTo (out : List Int) (k : Nat) : Bool := (List.range k).all fun i => !(out.getD (i + 1) 0 == -(out.getD i 0))
theorem okTo_next {out : List Int} {k : Nat} (h : okTo out k = true) (h2 : (out.getD (k + 1) 0 == -(out.getD k 0)) = false) : okTo out (k + 1) = true := by
  unfold okTo at *
  rw [List.range_succ, List.all_append, h, Bool.true_and]
  simp only [List.all_cons, List.all_nil, Bool.and_true, h2]
  rfl
theorem okTo_no {out : List Int} {k n : Nat} (hk : k < n) (h : (out.getD (k + 1) 0 == -(out.getD k 0)) = true) : okTo out n = false := by
  unfold okTo
  rw [List.all_eq_false]
  exact ⟨k, List.mem_range.2 hk, by rw [h]; decide⟩
/-- The clause of literals. -/
def clauseR (zs : List Int) : Option (List Int) := if okTo (cptL zs) ((cptL zs).length - 1) then some (cptL zs) else none
theorem clauseR_some {zs : List Int} (hl : ∀ x ∈ zs, LitS x) (hn : ∀ x ∈ zs, -x ∉ zs) : clauseR zs = some (cptL zs) ∧ GoodS (cptL zs) := by
  have hm : ∀ x ∈ cptL zs, LitS x := fun x hx => hl x (cptL_mem.1 hx)
  constructor
  · unfold clauseR
    rw [if_pos]
    unfold okTo
    rw [List.all_eq_true]
    intro i hi
    have hi := List.mem_range.1 hi
    have h1 : i + 1 < (cptL zs).length := by omega
    rw [List.getD_eq_getElem?_getD, List.getD_eq_getElem?_getD, List.getElem?_eq_getElem h1, List.getElem?_eq_getElem (by omega : i < (cptL zs).length)]
    simp only [Option.getD_some, Bool.not_eq_true', beq_eq_false_iff_ne]
    intro e
    refine hn _ (cptL_mem.1 (List.getElem_mem (by omega : i < (cptL zs).length))) ?_
    rw [← e]
    exact cptL_mem.1 (List.getElem_mem h1)
  · refine ⟨hm, ?_⟩
    refine (cptL_asc zs).imp_of_mem fun {a b} ha hb h => ?_
    have la := hm a ha; have lb := hm b hb
    unfold befL at h
    rw [absW_lit la, absW_lit lb] at h
    rcases h with h | ⟨h, h2⟩
    · exact h
    · exfalso
      have : b = -a := by
        rw [la.abs, lb.abs] at h
        unfold LitS at la lb
        split at h <;> split at h <;> omega
      refine hn a (cptL_mem.1 ha) ?_
      rw [← this]
      exact cptL_mem.1 hb
theorem clauseR_none {zs : List Int} (hl : ∀ x ∈ zs, LitS x) {y : Int} (hy : y ∈ zs) (hy2 : -y ∈ zs) : clauseR zs = none := by
  have hm : ∀ x ∈ cptL zs, LitS x := fun x hx => hl x (cptL_mem.1 hx)
  obtain ⟨x, hx, hx2, h0⟩ : ∃ x, x ∈ cptL zs ∧ -x ∈ cptL zs ∧ 0 < x := by
    have := hl y hy
    unfold LitS at this
    by_cases h : 0 < y
    · exact ⟨y, cptL_mem.2 hy, cptL_mem.2 hy2, h⟩
    · exact ⟨-y, cptL_mem.2 hy2, by rw [Int.neg_neg]; exact cptL_mem.2 hy, by omega⟩
  unfold clauseR
  rw [if_neg]
  obtain ⟨i, hi, rfl⟩ := List.getElem_of_mem hx
  obtain ⟨j, hj, e⟩ := List.getElem_of_mem hx2
  have hp := List.pairwise_iff_getElem.1 (cptL_asc zs)
  have lx := hm _ (List.getElem_mem hi)
  have habs : absW (-(cptL zs)[i]) = absW (cptL zs)[i] := by
    have l2 := hm _ hx2
    rw [absW_lit lx, absW_lit l2, lx.abs, l2.abs]
    split <;> split <;> omega
  have hij : i < j := by
    rcases Nat.lt_trichotomy i j with h | h | h
    · exact h
    · subst h; omega
    · have := hp j i hj hi h
      rw [e] at this
      unfold befL at this; omega
  have hjn : j = i + 1 := by
    rcases Nat.lt_or_ge (i + 1) j with h | h
    · exfalso
      have h1 := hp i (i + 1) hi (by omega) (by omega)
      have h2 := hp (i + 1) j (by omega) hj h
      rw [e] at h2
      have l3 := hm _ (List.getElem_mem (by omega : i + 1 < (cptL zs).length))
      have l2 := hm _ hx2
      unfold befL at h1 h2
      rw [absW_lit lx, absW_lit l3, lx.abs, l3.abs] at h1
      rw [absW_lit l3, absW_lit l2, l3.abs, l2.abs] at h2
      unfold LitS at l3
      split at h1 <;> split at h1 <;> split at h2 <;> omega
    · omega
  rw [Bool.not_eq_true]
  refine okTo_no (k := i) (by omega) ?_
  rw [List.getD_eq_getElem?_getD, List.getD_eq_getElem?_getD, List.getElem?_eq_getElem (by omega : i + 1 < (cptL zs).length), List.getElem?_eq_getElem hi]
  subst hjn
  simp only [Option.getD_some, beq_iff_eq]
  exact e
theorem clauseR_join {a b : List Int} (ga : GoodS a) (gb : GoodS b) : clauseR (a ++ b) = joinS a b := by
  have hl : ∀ x ∈ a ++ b, LitS x := fun x hx => by
    rcases List.mem_append.1 hx with h | h
    · exact ga.mem x h
    · exact gb.mem x h
  rcases joinS_spec ga gb with ⟨h1, l, hl2, hn⟩ | ⟨c, h1, gc, hm, hn⟩
  · rw [h1]
    exact clauseR_none hl (List.mem_append.2 (.inr hl2)) (List.mem_append.2 (.inl hn))
  · rw [h1]
    obtain ⟨h2, g2⟩ := clauseR_some hl fun x hx hx2 => by
      rcases List.mem_append.1 hx with h | h <;> rcases List.mem_append.1 hx2 with h' | h'
      · exact ga.clash h h'
      · exact hn _ h' (by rw [Int.neg_neg]; exact h)
      · exact hn x h h'
      · exact gb.clash h h'
    rw [h2]
    congr 1
    exact g2.ext gc fun x => by rw [cptL_mem, List.mem_append, hm]
theorem without_good {c : List Int} (h : GoodS c) (v : Int) : GoodS (withoutB c v) := ⟨fun l hl => h.mem l (List.mem_filter.1 hl).1, h.asc.filter _⟩
theorem memS_without {c : List Int} {v x : Int} : x ∈ withoutB c v ↔ x ∈ c ∧ absV x ≠ v := by
  unfold withoutB
  rw [List.mem_filter]
  simp
/-- A literal is set. -/
def setS (a : List Int) (l : Int) : List Int := putB (withoutB a (absV l)) l
theorem set_good {a : List Int} (ga : GoodS a) {l : Int} (hl : LitS l) : GoodS (setS a l) := (without_good ga _).put hl fun y hy => (memS_without.1 hy).2
theorem clauseR_set {a : List Int} (ga : GoodS a) {l : Int} (hl : LitS l) : clauseR (withoutB a (absV l) ++ [l]) = some (setS a l) := by
  have gw := without_good ga (absV l)
  have habs : absV (-l) = absV l := by
    have h2 : LitS (-l) := by unfold LitS at *; omega
    rw [hl.abs, h2.abs]; split <;> split <;> omega
  obtain ⟨h2, g2⟩ := clauseR_some (zs := withoutB a (absV l) ++ [l]) (fun x hx => by
    rcases List.mem_append.1 hx with h | h
    · exact gw.mem x h
    · obtain rfl : x = l := by simpa using h
      exact hl) fun x hx hx2 => by
    rcases List.mem_append.1 hx with h | h <;> rcases List.mem_append.1 hx2 with h' | h'
    · exact gw.clash h h'
    · have e : -x = l := by simpa using h'
      have : x = -l := by omega
      subst this
      exact (memS_without.1 h).2 habs
    · obtain rfl : x = l := by simpa using h
      exact (memS_without.1 h').2 habs
    · obtain rfl : x = l := by simpa using h
      have e : -x = x := by simpa using h'
      unfold LitS at hl; omega
  rw [h2]
  congr 1
  exact g2.ext (set_good ga hl) fun x => by
    unfold setS
    rw [cptL_mem, memS_putB, List.mem_append]
    simp [or_comm]
end Go.Proofs.YtahbepajeplcmaaGreat
