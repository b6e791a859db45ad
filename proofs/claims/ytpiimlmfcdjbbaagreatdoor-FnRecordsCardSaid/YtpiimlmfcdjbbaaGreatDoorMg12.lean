/- Lemmas and contracts for a law, put together out of several texts: WalkRecords. -/
import Derived.Test.YtpiimlmfcdjbbaaGreatDoorMg1
import Derived.Test.YtpiimlmfcdjbbaaGreatDoorMg3
import Derived.Test.YtpiimlmfcdjbbaaGreatDoorMg4
import Derived.Test.YtpiimlmfcdjbbaaGreatDoorMg8
import Derived.Test.YtpiimlmfcdjbbaaGreatDoorMg11
import Derived.Test.YtpiimlmfcdjbbaaGreatDoorMg10
import Derived.Deep.DeepCutAuto
import Derived.Deep.CutBlock
/- The walk of FnRecords (second half printed by a program). -/
namespace Go.Proofs.YtpiimlmfcdjbbaaGreatDoor
open Go.RowKit

/-- The cells of a row's record, at any later world. -/
theorem row_cells {w : World} {A : Option Addr} {c k : Nat} {xs : List Rec} {F : List Nat} (hk : k < xs.length) (h : rcTy.row false w (.slice A xs.length c) xs F) :
    ∃ b o, A = some ⟨b, o, none⟩ ∧ ∀ W, Below w.heap.size w W → W.cell? ⟨b, o + k * 4, none⟩ = some (.string (ms xs[k].name)) ∧ W.cell? ⟨b, o + k * 4 + 1, none⟩ = some (.int .i64 xs[k].sys) ∧ W.cell? ⟨b, o + k * 4 + 2, none⟩ = some (.int .i64 xs[k].size) ∧ W.cell? ⟨b, o + k * 4 + 3, none⟩ = some (.int .i64 xs[k].extra) := by
  obtain ⟨_, _, ex, -, -, -, hx⟩ := row_rc h
  cases ex
  rcases hx with ⟨rfl, -⟩ | ⟨-, b, o, rfl, -, hx⟩
  · exact absurd hk (by simp)
  · obtain ⟨p0, p1, p2, p3⟩ := hx k hk
    have f : ∀ {W : World} {d : Nat} {v : Value}, Below w.heap.size w W → w.cell? ⟨b, d, none⟩ = some v → W.cell? ⟨b, d, none⟩ = some v := fun hW k0 => (hW.cell (World.block_lt_of_cell? _ _ k0)).trans k0
    exact ⟨b, o, rfl, fun W hW => ⟨f hW p0.1, f hW p1.1, f hW p2.1, f hW p3.1⟩⟩
theorem rBigR_any (ca : Option Addr) (cl cc : Nat) (w : World) : Calls Tryz.prog 4 #[.slice ca cl cc] w fun e w' => e = .returned (.bool (decide ((65536 : Int) < (cl : Int)))) ∧ w' = w := by
  go_enter Tryz.func4, Tryz.ntmps4
  go_wp2_with fail
  go_ret
  exact ⟨rfl, rfl⟩
theorem mrg_row {q : Option (List Rec)} {L : List Rec} {ok : Bool} {w w' : World} {e : Ending} (h1 : q.isSome = ok) (h2 : q.getD [] = L) (h : MrgPost q w e w') : ∃ A c, e = .returned (.tuple #[.slice A L.length c, .bool ok]) ∧ Sp w w' [Recs (.slice A L.length c) L] := by
  subst h1; subst h2; exact h
theorem mergeA_ok {xs ys : List Rec} : (∀ z ∈ (mergeA xs ys).getD [], rcOk z) ∧ ((mergeA xs ys).getD []).length ≤ 24 := by
  cases h : mergeA xs ys with
  | none => exact ⟨by simp, by simp⟩
  | some z =>
    obtain ⟨-, -, hz⟩ := merge_books h
    exact ⟨rec_ok_book hz, book_le' hz⟩

theorem specIsBookR_any {v : Value} {xs : List Rec} {F : List Nat} {w : World} {q : Bool} (hx : rcTy.row false w v xs F) (h : bookB xs = q) :
    Calls Tryz.prog 9 #[v] w fun e w' => e = .returned (.bool q) ∧ Below w.heap.size w w' := by
  obtain ⟨a, c, rfl, _⟩ := row_rc hx
  go_enter Tryz.func9, Tryz.ntmps9
  go_wp2_with (go_at_call 20; refine (l31Good_at hx h).mono ?_; rintro e w1 ⟨rfl, hb1⟩)
  go_ret
  exact ⟨rfl, hb1⟩
set_option maxRecDepth 100000 in
set_option maxHeartbeats 16000000 in
theorem FnRecords_walk (ca : Option Addr) (cl cc : Nat) (a : Addr) (w : World) (hE : ErrB a w) (hP : PEnv w) (hc : CodeOk w ca cl) :
    Calls Tryz.prog 3 #[.slice ca cl cc] w fun e w' => e = .returned (.bool true) ∧ Below w.heap.size w w' := by
  have hcH := Lib.hid hc
  replace hE := Lib.hid hE
  replace hP := Lib.hid hP
  clear hc
  by_cases hbig : (65536 : Int) < (cl : Int)
  · go_enter Tryz.func3, Tryz.ntmps3
    go_wp2_with fail
    refine (rBigR_any _ _ _ _).mono ?_
    rintro e w1 ⟨rfl, rfl⟩
    rw [decide_eq_true hbig]
    go_wp2_with fail
    go_ret
    exact ⟨rfl, bb _⟩
  have hsm : cl ≤ 65536 := by omega
  have hv := Lib.hid (decide_eq_false hbig)
  clear hbig
  go_enter Tryz.func3, Tryz.ntmps3
  go_wp2_with fail
  refine (rBigR_any _ _ _ _).mono ?_
  rintro e w1 ⟨rfl, rfl⟩
  rw [hv.out]
  clear hv
  go_wp2_with fail
  refine (drawMerge_any ca cl cc w1 hcH.out hsm).mono ?_
  rintro e w2 ⟨v, u, xs, ys, rfl, ⟨hx30, hy30⟩, ⟨hxg, hyg⟩, S2⟩
  obtain ⟨Ax, cx, rfl⟩ := own_slice (S2.own (i := 1) rfl)
  obtain ⟨Ay, cy, rfl⟩ := own_slice (S2.own (i := 0) rfl)
  obtain ⟨Fx, hrx, -, -⟩ := S2.recs_row (i := 1) rfl hxg
  obtain ⟨Fy, hry, -, -⟩ := S2.recs_row (i := 0) rfl hyg
  obtain ⟨hLg, hL24⟩ := mergeA_ok (xs := xs) (ys := ys)
  obtain ⟨q, hq⟩ : ∃ q, mergeA xs ys = q := ⟨_, rfl⟩
  obtain ⟨ok, hok⟩ : ∃ ok, q.isSome = ok := ⟨_, rfl⟩
  obtain ⟨L, hL⟩ : ∃ L, q.getD [] = L := ⟨_, rfl⟩
  rw [hq, hL] at hLg hL24
  have himpl := (implMerge_any _ _ xs ys Fx Fy a w2 (row_read hrx) (row_read hry) (hE.out.grow S2.below)).mono (fun e w' hp => mrg_row (hq ▸ hok) (hq ▸ hL) hp)
  have hspec := Lib.hid (fun W (h : Below w2.heap.size w2 W) => (specMerge_any _ _ xs ys Fx Fy W (Ty.row_below (row_read hrx) h (Ty.row_lt (row_read hrx))) (Ty.row_below (row_read hry) h (Ty.row_lt (row_read hry)))).mono (fun e w' hp => mrg_row (hq ▸ hok) (hq ▸ hL) hp))
  have hbx := Lib.hid (fun W (h : Below w2.heap.size w2 W) => Ty.row_below (row_read hrx) h (Ty.row_lt (row_read hrx)))
  have hby := Lib.hid (fun W (h : Below w2.heap.size w2 W) => Ty.row_below (row_read hry) h (Ty.row_lt (row_read hry)))
  replace hq := Lib.hid hq
  replace hok := Lib.hid hok
  replace hL := Lib.hid hL
  replace S2 := Lib.hid S2
  have hrx2 := Lib.hid (row_read hrx)
  have hry2 := Lib.hid (row_read hry)
  have hB2w := Lib.hid S2.out.below
  have hE2 := Lib.hid (hE.out.grow S2.out.below)
  have hP2 := Lib.hid (hP.out.grow S2.out.below)
  clear hrx hry
  go_wp2_with fail
  refine himpl.mono ?_
  rintro e w3 ⟨A3, c3, rfl, S3⟩
  have hB3 := S3.below
  replace S3 := Lib.hid S3
  clear himpl
  go_wp2_with fail
  refine (hspec.out _ hB3).mono ?_
  rintro e w4 ⟨A4, c4, rfl, S4⟩
  have S5 := Lib.hid (S3.out.seq S4)
  clear S3 S4 hspec hB3
  go_wp2_with fail
  go_loopw [9] (fun vi wr => ∃ k : Nat, k ≤ L.length ∧ vi = .int .i64 k ∧ Hid (Sp w2 wr [Recs (.slice A4 L.length c4) L, Recs (.slice A3 L.length c3) L])) (fun vi _ => L.length - (intOf vi).toNat)
  case atStart => exact ⟨0, Nat.zero_le _, rfl, S5⟩
  case round =>
    obtain ⟨k, hk, rfl, HS⟩ := hrel
    clear S5
    by_cases hlt : k < L.length
    · obtain ⟨F3, hr3, -, -⟩ := HS.out.recs_row (i := 1) rfl hLg
      obtain ⟨F4, hr4, -, -⟩ := HS.out.recs_row (i := 0) rfl hLg
      obtain ⟨_, _, e3, -, -, -, hx3⟩ := row_rc (row_read hr3)
      obtain ⟨_, _, e4, -, -, -, hx4⟩ := row_rc (row_read hr4)
      cases e3
      cases e4
      rcases hx3 with ⟨rfl, rfl⟩ | ⟨-, b3, o3, rfl, rfl, hx3⟩
      · exact absurd hlt (by simp)
      rcases hx4 with ⟨rfl, rfl⟩ | ⟨-, b4, o4, rfl, rfl, hx4⟩
      · exact absurd hlt (by simp)
      obtain ⟨p0, p1, p2, p3⟩ := hx3 k hlt
      obtain ⟨q0, q1, q2, q3⟩ := hx4 k hlt
      have k0 := p0.1
      have k1 := p1.1
      have k2 := p2.1
      have k3 := p3.1
      have j0 := q0.1
      have j1 := q1.1
      have j2 := q2.1
      have j3 := q3.1
      have hneq := fun W => neq_rec L[k] W
      generalize L[k] = r at k0 k1 k2 k3 j0 j1 j2 j3 hneq
      clear p0 p1 p2 p3 q0 q1 q2 q3 hx3 hx4 hr3 hr4
      go_wp2_with fail
      refine wp_region_held_lit (S := (fun w' => (w'.cell? ⟨b3, o3 + k * 4, none⟩ = some (.string (ms r.name)) ∧ w'.cell? ⟨b3, o3 + k * 4 + 1, none⟩ = some (.int .i64 r.sys) ∧ w'.cell? ⟨b3, o3 + k * 4 + 2, none⟩ = some (.int .i64 r.size) ∧ w'.cell? ⟨b3, o3 + k * 4 + 3, none⟩ = some (.int .i64 r.extra)) ∧ w'.cell? ⟨b4, o4 + k * 4, none⟩ = some (.string (ms r.name)) ∧ w'.cell? ⟨b4, o4 + k * 4 + 1, none⟩ = some (.int .i64 r.sys) ∧ w'.cell? ⟨b4, o4 + k * 4 + 2, none⟩ = some (.int .i64 r.size) ∧ w'.cell? ⟨b4, o4 + k * 4 + 3, none⟩ = some (.int .i64 r.extra))) 9 [false, false, false, false, false, false, false, false, false] (by kernel_rfl) (by kernel_rfl) (by kernel_rfl) ?_ ?_
      · exact ⟨⟨k0, k1, k2, k3⟩, j0, j1, j2, j3⟩
      intro hSc
      (refine wpAnyH_take (i := 0) (v := ?_) rfl (by kernel_rfl) (by kernel_rfl) (by kernel_rfl) (fun _ _ _ h => h) (Or.inl ⟨by rfl, ?_⟩) (by assumption) ?_; rotate_left; (focus (intro w hSw; (try dsimp only at hSw); go_simp; (try with_reducible rfl); done)); (try simp only [put_rules]))
      (refine wpAnyH_take (i := 1) (v := ?_) rfl (by kernel_rfl) (by kernel_rfl) (by kernel_rfl) (fun _ _ _ h => h) (Or.inl ⟨by rfl, ?_⟩) (by assumption) ?_; rotate_left; (focus (intro w hSw; (try dsimp only at hSw); go_simp; (try with_reducible rfl); done)); (try simp only [put_rules]))
      (refine wpAnyH_take (i := 2) (v := ?_) rfl (by kernel_rfl) (by kernel_rfl) (by kernel_rfl) (fun _ _ _ h => h) (Or.inl ⟨by rfl, ?_⟩) (by assumption) ?_; rotate_left; (focus (intro w hSw; (try dsimp only at hSw); go_simp; (try with_reducible rfl); done)); (try simp only [put_rules]))
      (refine wpAnyH_take (i := 3) (v := ?_) rfl (by kernel_rfl) (by kernel_rfl) (by kernel_rfl) (fun _ _ _ h => h) (Or.inl ⟨by rfl, ?_⟩) (by assumption) ?_; rotate_left; (focus (intro w hSw; (try dsimp only at hSw); go_simp; (try with_reducible rfl); done)); (try simp only [put_rules]))
      (refine wpAnyH_take (i := 4) (v := ?_) rfl (by kernel_rfl) (by kernel_rfl) (by kernel_rfl) (fun _ _ _ h => h) (Or.inl ⟨by rfl, ?_⟩) (by assumption) ?_; rotate_left; (focus (intro w hSw; (try dsimp only at hSw); go_simp; (try with_reducible rfl); done)); (try simp only [put_rules]))
      (refine wpAnyH_take (i := 5) (v := ?_) rfl (by kernel_rfl) (by kernel_rfl) (by kernel_rfl) (fun _ _ _ h => h) (Or.inl ⟨by rfl, ?_⟩) (by assumption) ?_; rotate_left; (focus (intro w hSw; (try dsimp only at hSw); go_simp; (try with_reducible rfl); done)); (try simp only [put_rules]))
      (refine wpAnyH_take (i := 6) (v := ?_) rfl (by kernel_rfl) (by kernel_rfl) (by kernel_rfl) (fun _ _ _ h => h) (Or.inl ⟨by rfl, ?_⟩) (by assumption) ?_; rotate_left; (focus (intro w hSw; (try dsimp only at hSw); go_simp; (try with_reducible rfl); done)); (try simp only [put_rules]))
      (refine wpAnyH_take (i := 7) (v := ?_) rfl (by kernel_rfl) (by kernel_rfl) (by kernel_rfl) (fun _ _ _ h => h) (Or.inl ⟨by rfl, ?_⟩) (by assumption) ?_; rotate_left; (focus (intro w hSw; (try dsimp only at hSw); go_simp; (try with_reducible rfl); done)); (try simp only [put_rules]))
      (refine wpAnyH_ready (rs := [8]) (by kernel_rfl) (by simp) ?_; refine AllReadyH.cons rfl (fun K hK => ?_) AllReadyH.nil)
      go_simp
      refine hK.out _ _ hSc (fun hS2 => ?_)
      have HS2 := Lib.hid HS.out.drew
      clear hK hS2 hSc HS k0 k1 k2 k3 j0 j1 j2 j3 hneq
      (try simp only [put_rules])
      (refine wpAnyH_done (by kernel_rfl) ?_ _)
      go_wp2_with fail
      go_roundw
      case rel => exact ⟨k + 1, by omega, by go_num, HS2⟩
      case measure => simp [intOf]; omega
    · obtain rfl : k = L.length := by omega
      have hB4 := Lib.hid HS.out.below
      cases hbk : bookB xs
      · have hok0 : ok = false := by rw [← hok.out, ← hq.out, merge_no (by rw [hbk]; rfl)]; rfl
        subst hok0
        have hsb := Lib.hid fun W (h : Below w2.heap.size w2 W) => specIsBookR_any (hbx.out W h) hbk
        have hib := Lib.hid fun W (h : Below w2.heap.size w2 W) => isBook_at (hbx.out W h) hbk
        have hB2 := Lib.hid S2.out.below
        clear HS hbk hq hL hok hLg hL24 S2
        go_wp2_with fail
        refine (hib.out _ hB4.out).mono ?_
        rintro e w5 ⟨rfl, hb5⟩
        have hB5 := Lib.hid (btr hB4.out hb5)
        clear hB4 hb5
        go_wp2_with fail
        refine (hsb.out _ hB5.out).mono ?_
        rintro e w6 ⟨rfl, hb6⟩
        have hB6 := Lib.hid (btr hB5.out hb6)
        clear hB5 hb6
        go_wp2_with fail
        refine (hib.out _ hB6.out).mono ?_
        rintro e w7 ⟨rfl, hb7⟩
        have hB7 := btr hB2.out (btr hB6.out hb7)
        go_wp2_with fail
        go_ret
        exact ⟨rfl, hB7⟩
      have hsb := Lib.hid fun W (h : Below w2.heap.size w2 W) => specIsBookR_any (hbx.out W h) hbk
      have hib := Lib.hid fun W (h : Below w2.heap.size w2 W) => isBook_at (hbx.out W h) hbk
      clear hB4
      go_wp2_with fail
      refine (hib.out _ HS.out.below).mono ?_
      rintro e w5 ⟨rfl, hb5⟩
      have S6 := Lib.hid (HS.out.grow hb5)
      clear HS hb5
      go_wp2_with fail
      refine (hsb.out _ S6.out.below).mono ?_
      rintro e w6 ⟨rfl, hb6⟩
      have S7 := Lib.hid (S6.out.grow hb6)
      clear S6 hb6
      go_upto_if 86 with fail
      go_cut [10] (fun _ wx => Hid (Below w2.heap.size w2 wx))
      case first =>
        have hqk := Lib.hid (show ok = true → mergeA xs ys = some L from fun h => by
          rw [← hok.out, Option.isSome_iff_exists] at h
          obtain ⟨z, hz⟩ := h
          rw [hq.out, hz, ← hL.out, hz]; rfl)
        clear hok hq hL
        cases ok
        · have hB7 := Lib.hid S7.out.below
          go_wp2_with fail
          go_meet
          exact hB7
        have hmz := Lib.hid (hqk.out rfl)
        clear hqk
        have hbL := Lib.hid (merge_books hmz.out).2.2
        go_wp2_with fail
        go_loopw [10] (fun vi wr => ∃ k : Nat, k ≤ xs.length ∧ vi = .int .i64 k ∧ Hid (Sp w2 wr [Recs (.slice A4 L.length c4) L, Recs (.slice A3 L.length c3) L])) (fun vi _ => xs.length - (intOf vi).toNat)
        case atStart => exact ⟨0, Nat.zero_le _, rfl, S7⟩
        case round =>
          obtain ⟨k, hk, rfl, HS⟩ := hrel
          clear S7
          by_cases hlt : k < xs.length
          · obtain ⟨q1, hq1, hq2⟩ := merge_left hmz.out (List.getElem_mem hlt)
            obtain ⟨b3, o3, rfl, hcx⟩ := row_cells hlt hrx2.out
            obtain ⟨FL, hrL, -, -⟩ := HS.out.recs_row (i := 1) rfl hLg
            have hrec := Lib.hid fun W (h : Below wr.heap.size wr W) => recordOf_at (Ty.row_below (row_read hrL) h (Ty.row_lt (row_read hrL))) hbL.out hq1
            generalize xs[k] = r at hcx hrec hq2
            have hcmp : decide (r.size < q1.size) = false := decide_eq_false (by omega)
            have hc0 := hcx wr HS.out.below
            have hlt' := Lib.hid hlt
            replace hcx := Lib.hid hcx
            replace hq2 := Lib.hid hq2
            clear hrL hq1 hq2 hlt hmz
            go_wp2_with fail
            refine wp_region_held_lit (S := (fun w' => w'.cell? ⟨b3, o3 + k * 4, none⟩ = some (.string (ms r.name)) ∧ w'.cell? ⟨b3, o3 + k * 4 + 1, none⟩ = some (.int .i64 r.sys) ∧ w'.cell? ⟨b3, o3 + k * 4 + 2, none⟩ = some (.int .i64 r.size) ∧ w'.cell? ⟨b3, o3 + k * 4 + 3, none⟩ = some (.int .i64 r.extra))) 18 [false, false, false, false, false, false, false, false, false, false, false, false, false, false, false, false, false, false] (by kernel_rfl) (by kernel_rfl) (by kernel_rfl) ?_ ?_
            · exact hc0
            intro hSc
            clear hc0
            (refine wpAnyH_take (i := 0) (v := ?_) rfl (by kernel_rfl) (by kernel_rfl) (by kernel_rfl) (fun _ _ _ h => h) (Or.inl ⟨by rfl, ?_⟩) (by assumption) ?_; rotate_left; (focus (intro w hSw; (try dsimp only at hSw); go_simp; (try with_reducible rfl); done)); (try simp only [put_rules]))
            (refine wpAnyH_take (i := 1) (v := ?_) rfl (by kernel_rfl) (by kernel_rfl) (by kernel_rfl) (fun _ _ _ h => h) (Or.inl ⟨by rfl, ?_⟩) (by assumption) ?_; rotate_left; (focus (intro w hSw; (try dsimp only at hSw); go_simp; (try with_reducible rfl); done)); (try simp only [put_rules]))
            (refine wpAnyH_take (i := 2) (v := ?_) rfl (by kernel_rfl) (by kernel_rfl) (by kernel_rfl) (fun _ _ _ h => h) (Or.inl ⟨by rfl, ?_⟩) (by assumption) ?_; rotate_left; (focus (intro w hSw; (try dsimp only at hSw); go_simp; (try with_reducible rfl); done)); (try simp only [put_rules]))
            (refine wpAnyH_take (i := 3) (v := ?_) rfl (by kernel_rfl) (by kernel_rfl) (by kernel_rfl) (fun _ _ _ h => h) (Or.inl ⟨by rfl, ?_⟩) (by assumption) ?_; rotate_left; (focus (intro w hSw; (try dsimp only at hSw); go_simp; (try with_reducible rfl); done)); (try simp only [put_rules]))
            (refine wpAnyH_take (i := 4) (v := ?_) rfl (by kernel_rfl) (by kernel_rfl) (by kernel_rfl) (fun _ _ _ h => h) (Or.inl ⟨by rfl, ?_⟩) (by assumption) ?_; rotate_left; (focus (intro w hSw; (try dsimp only at hSw); go_simp; (try with_reducible rfl); done)); (try simp only [put_rules]))
            (refine wpAnyH_take (i := 5) (v := ?_) rfl (by kernel_rfl) (by kernel_rfl) (by kernel_rfl) (fun _ _ _ h => h) (Or.inl ⟨by rfl, ?_⟩) (by assumption) ?_; rotate_left; (focus (intro w hSw; (try dsimp only at hSw); go_simp; (try with_reducible rfl); done)); (try simp only [put_rules]))
            (refine wpAnyH_take (i := 6) (v := ?_) rfl (by kernel_rfl) (by kernel_rfl) (by kernel_rfl) (fun _ _ _ h => h) (Or.inl ⟨by rfl, ?_⟩) (by assumption) ?_; rotate_left; (focus (intro w hSw; (try dsimp only at hSw); go_simp; (try with_reducible rfl); done)); (try simp only [put_rules]))
            (refine wpAnyH_take (i := 7) (v := ?_) rfl (by kernel_rfl) (by kernel_rfl) (by kernel_rfl) (fun _ _ _ h => h) (Or.inl ⟨by rfl, ?_⟩) (by assumption) ?_; rotate_left; (focus (intro w hSw; (try dsimp only at hSw); go_simp; (try with_reducible rfl); done)); (try simp only [put_rules]))
            (refine wpAnyH_take (i := 8) (v := ?_) rfl (by kernel_rfl) (by kernel_rfl) (by kernel_rfl) (fun _ _ _ h => h) (Or.inl ⟨by rfl, ?_⟩) (by assumption) ?_; rotate_left; (focus (intro w hSw; (try dsimp only at hSw); go_simp; (try with_reducible rfl); done)); (try simp only [put_rules]))
            (refine wpAnyH_take (i := 9) (v := ?_) rfl (by kernel_rfl) (by kernel_rfl) (by kernel_rfl) (fun _ _ _ h => h) (Or.inl ⟨by rfl, ?_⟩) (by assumption) ?_; rotate_left; (focus (intro w hSw; (try dsimp only at hSw); go_simp; (try with_reducible rfl); done)); (try simp only [put_rules]))
            (refine wpAnyH_take (i := 10) (v := ?_) rfl (by kernel_rfl) (by kernel_rfl) (by kernel_rfl) (fun _ _ _ h => h) (Or.inl ⟨by rfl, ?_⟩) (by assumption) ?_; rotate_left; (focus (intro w hSw; (try dsimp only at hSw); go_simp; (try with_reducible rfl); done)); (try simp only [put_rules]))
            (refine wpAnyH_ready (rs := [11, 15]) (by kernel_rfl) (by simp) ?_; refine AllReadyH.cons rfl (fun K hK => ?_) (AllReadyH.cons rfl (fun K hK => ?_) AllReadyH.nil))
            · as_aux_lemma =>
              go_simp
              go_at_call 10
              refine (hrec.out _ (bdr (bb _))).mono ?_
              rintro e w9 ⟨rfl, hb9⟩
              have S9 := HS.out.drew.grow hb9
              go_wp2_with fail
              refine hK.out _ _ (hcx.out _ S9.below) (fun hS2 => ?_)
              clear hK hSc
              (try simp only [put_rules])
              (refine wpAnyH_take (i := 12) (v := ?_) rfl (by kernel_rfl) (by kernel_rfl) (by kernel_rfl) (fun _ _ _ h => h) (Or.inl ⟨by rfl, ?_⟩) (by assumption) ?_; rotate_left; (focus (intro w hSw; (try dsimp only at hSw); go_simp; (try with_reducible rfl); done)); (try simp only [put_rules]))
              (refine wpAnyH_take (i := 13) (v := ?_) rfl (by kernel_rfl) (by kernel_rfl) (by kernel_rfl) (fun _ _ _ h => h) (Or.inl ⟨by rfl, ?_⟩) (by assumption) ?_; rotate_left; (focus (intro w hSw; (try dsimp only at hSw); go_simp; (try with_reducible rfl); done)); (try simp only [put_rules]))
              (refine wpAnyH_take (i := 14) (v := ?_) rfl (by kernel_rfl) (by kernel_rfl) (by kernel_rfl) (fun _ _ _ h => h) (Or.inl ⟨by rfl, ?_⟩) (by assumption) ?_; rotate_left; (focus (intro w hSw; (try dsimp only at hSw); go_simp; (try with_reducible rfl); done)); (try simp only [put_rules]))
              (refine wpAnyH_ready (rs := [15]) (by kernel_rfl) (by simp) ?_; refine AllReadyH.cons rfl (fun K hK => ?_) AllReadyH.nil)
              go_simp
              have SA := S9.alloc_box #[.string ⟨#[]⟩, .int .i64 0, .int .i64 0, .int .i64 0] 30
              have y0 := SA.frozen (i := 0) rfl 0
              have y1 := SA.frozen (i := 0) rfl 1
              have y2 := SA.frozen (i := 0) rfl 2
              have y3 := SA.frozen (i := 0) rfl 3
              refine hK.out _ _ (hcx.out _ SA.below) (fun hS3 => ?_)
              clear hK hS2
              (try simp only [put_rules])
              (refine wpAnyH_ready (rs := [16]) (by kernel_rfl) (by simp) ?_; refine AllReadyH.cons rfl (fun K hK => ?_) AllReadyH.nil)
              go_simp
              have SB := S9.alloc_box #[.string (ms q1.name), .int .i64 q1.sys, .int .i64 q1.size, .int .i64 q1.extra] 30
              refine hK.out _ _ (hcx.out _ SB.below) (fun hS4 => ?_)
              clear hK hS3 SA y0 y1 y2 y3 S9
              (try simp only [put_rules])
              (refine wpAnyH_ready (rs := [17]) (by kernel_rfl) (by simp) ?_; refine AllReadyH.cons rfl (fun K hK => ?_) AllReadyH.nil)
              go_simp
              refine hK.out _ _ hS4 (fun hS5 => ?_)
              clear hK hS4 hS5
              (try simp only [put_rules])
              (refine wpAnyH_done (by kernel_rfl) ?_ _)
              have SC := Lib.hid SB
              clear SB HS
              obtain ⟨g3, hg3⟩ : ∃ g, w9.heap.size = g := ⟨_, rfl⟩
              rw [hg3] at SC ⊢
              go_wp2_with fail
              refine wp_region_held_lit (S := (fun w' => w'.cell? ⟨b3, o3 + k * 4 + 2, none⟩ = some (.int .i64 r.size) ∧ w'.cell? ⟨g3, 2, none⟩ = some (.int .i64 q1.size))) 12 [false, false, false, false, false, false, false, false, false, false, false, false] (by kernel_rfl) (by kernel_rfl) (by kernel_rfl) ?_ ?_
              · exact ⟨(hcx.out _ SC.out.below).2.2.1, SC.out.cell (i := 0) rfl (o := 2) rfl⟩
              intro hSd
              (refine wpAnyH_take (i := 0) (v := ?_) rfl (by kernel_rfl) (by kernel_rfl) (by kernel_rfl) (fun _ _ _ h => h) (Or.inl ⟨by rfl, ?_⟩) (by assumption) ?_; rotate_left; (focus (intro w hSw; (try dsimp only at hSw); go_simp; (try with_reducible rfl); done)); (try simp only [put_rules]))
              (refine wpAnyH_take (i := 1) (v := ?_) rfl (by kernel_rfl) (by kernel_rfl) (by kernel_rfl) (fun _ _ _ h => h) (Or.inl ⟨by rfl, ?_⟩) (by assumption) ?_; rotate_left; (focus (intro w hSw; (try dsimp only at hSw); go_simp; (try with_reducible rfl); done)); (try simp only [put_rules]))
              (refine wpAnyH_take (i := 2) (v := ?_) rfl (by kernel_rfl) (by kernel_rfl) (by kernel_rfl) (fun _ _ _ h => h) (Or.inl ⟨by rfl, ?_⟩) (by assumption) ?_; rotate_left; (focus (intro w hSw; (try dsimp only at hSw); go_simp; (try with_reducible rfl); done)); (try simp only [put_rules]))
              (refine wpAnyH_take (i := 3) (v := ?_) rfl (by kernel_rfl) (by kernel_rfl) (by kernel_rfl) (fun _ _ _ h => h) (Or.inl ⟨by rfl, ?_⟩) (by assumption) ?_; rotate_left; (focus (intro w hSw; (try dsimp only at hSw); go_simp; (try with_reducible rfl); done)); (try simp only [put_rules]))
              (refine wpAnyH_take (i := 4) (v := ?_) rfl (by kernel_rfl) (by kernel_rfl) (by kernel_rfl) (fun _ _ _ h => h) (Or.inl ⟨by rfl, ?_⟩) (by assumption) ?_; rotate_left; (focus (intro w hSw; (try dsimp only at hSw); go_simp; (try with_reducible rfl); done)); (try simp only [put_rules]))
              (refine wpAnyH_take (i := 5) (v := ?_) rfl (by kernel_rfl) (by kernel_rfl) (by kernel_rfl) (fun _ _ _ h => h) (Or.inl ⟨by rfl, ?_⟩) (by assumption) ?_; rotate_left; (focus (intro w hSw; (try dsimp only at hSw); go_simp; (try with_reducible rfl); done)); (try simp only [put_rules]))
              (refine wpAnyH_take (i := 6) (v := ?_) rfl (by kernel_rfl) (by kernel_rfl) (by kernel_rfl) (fun _ _ _ h => h) (Or.inl ⟨by rfl, ?_⟩) (by assumption) ?_; rotate_left; (focus (intro w hSw; (try dsimp only at hSw); go_simp; (try with_reducible rfl); done)); (try simp only [put_rules]))
              (refine wpAnyH_take (i := 7) (v := ?_) rfl (by kernel_rfl) (by kernel_rfl) (by kernel_rfl) (fun _ _ _ h => h) (Or.inl ⟨by rfl, ?_⟩) (by assumption) ?_; rotate_left; (focus (intro w hSw; (try dsimp only at hSw); go_simp; (try with_reducible rfl); done)); (try simp only [put_rules]))
              (refine wpAnyH_take (i := 8) (v := ?_) rfl (by kernel_rfl) (by kernel_rfl) (by kernel_rfl) (fun _ _ _ h => h) (Or.inl ⟨by rfl, ?_⟩) (by assumption) ?_; rotate_left; (focus (intro w hSw; (try dsimp only at hSw); go_simp; (try with_reducible rfl); done)); (try simp only [put_rules]))
              (refine wpAnyH_take (i := 9) (v := ?_) rfl (by kernel_rfl) (by kernel_rfl) (by kernel_rfl) (fun _ _ _ h => h) (Or.inl ⟨by rfl, ?_⟩) (by assumption) ?_; rotate_left; (focus (intro w hSw; (try dsimp only at hSw); go_simp; (try with_reducible rfl); done)); (try simp only [put_rules]))
              (refine wpAnyH_take (i := 10) (v := ?_) rfl (by kernel_rfl) (by kernel_rfl) (by kernel_rfl) (fun _ _ _ h => h) (Or.inl ⟨by rfl, ?_⟩) (by assumption) ?_; rotate_left; (focus (intro w hSw; (try dsimp only at hSw); go_simp; (try with_reducible rfl); done)); (try simp only [put_rules]))
              (refine wpAnyH_take (i := 11) (v := ?_) rfl (by kernel_rfl) (by kernel_rfl) (by kernel_rfl) (fun _ _ _ h => h) (Or.inl ⟨by rfl, ?_⟩) (by assumption) ?_; rotate_left; (focus (intro w hSw; (try dsimp only at hSw); go_simp; (try with_reducible rfl); done)); (try simp only [put_rules]))
              (refine wpAnyH_done (by kernel_rfl) ?_ _)
              have HS2 := Lib.hid SC.out.drew.tail
              clear SC hSd
              go_wp2_with fail
              go_roundw
              case rel => exact ⟨k + 1, by have := hlt'.out; omega, by go_num, HS2⟩
              case measure => have := hlt'.out; simp [intOf]; omega
            · as_aux_lemma =>
              go_simp
              have SA := HS.out.drew.alloc_box #[.string ⟨#[]⟩, .int .i64 0, .int .i64 0, .int .i64 0] 30
              rw [show wr.drew.heap.size = wr.heap.size from rfl] at SA
              refine hK.out _ _ (hcx.out _ SA.below) (fun hS2 => ?_)
              clear hK hSc
              (try simp only [put_rules])
              (refine wpAnyH_ready (rs := [11]) (by kernel_rfl) (by simp) ?_; refine AllReadyH.cons rfl (fun K hK => ?_) AllReadyH.nil)
              go_simp
              go_at_call 10
              refine (hrec.out _ (bal (bdr (bb _)) _)).mono ?_
              rintro e w9 ⟨rfl, hb9⟩
              have S9 := SA.grow hb9
              go_wp2_with fail
              refine hK.out _ _ (hcx.out _ S9.below) (fun hS3 => ?_)
              clear hK hS2
              (try simp only [put_rules])
              (refine wpAnyH_take (i := 12) (v := ?_) rfl (by kernel_rfl) (by kernel_rfl) (by kernel_rfl) (fun _ _ _ h => h) (Or.inl ⟨by rfl, ?_⟩) (by assumption) ?_; rotate_left; (focus (intro w hSw; (try dsimp only at hSw); go_simp; (try with_reducible rfl); done)); (try simp only [put_rules]))
              (refine wpAnyH_take (i := 13) (v := ?_) rfl (by kernel_rfl) (by kernel_rfl) (by kernel_rfl) (fun _ _ _ h => h) (Or.inl ⟨by rfl, ?_⟩) (by assumption) ?_; rotate_left; (focus (intro w hSw; (try dsimp only at hSw); go_simp; (try with_reducible rfl); done)); (try simp only [put_rules]))
              (refine wpAnyH_take (i := 14) (v := ?_) rfl (by kernel_rfl) (by kernel_rfl) (by kernel_rfl) (fun _ _ _ h => h) (Or.inl ⟨by rfl, ?_⟩) (by assumption) ?_; rotate_left; (focus (intro w hSw; (try dsimp only at hSw); go_simp; (try with_reducible rfl); done)); (try simp only [put_rules]))
              have y0 := S9.frozen (i := 0) rfl 0
              have y1 := S9.frozen (i := 0) rfl 1
              have y2 := S9.frozen (i := 0) rfl 2
              have y3 := S9.frozen (i := 0) rfl 3
              have z0 := S9.cell (i := 0) rfl (o := 0) rfl
              have z1 := S9.cell (i := 0) rfl (o := 1) rfl
              have z2 := S9.cell (i := 0) rfl (o := 2) rfl
              have z3 := S9.cell (i := 0) rfl (o := 3) rfl
              have SB := (((S9.store (i := 0) rfl 0 (.string (ms q1.name))).store (i := 0) rfl 1 (.int .i64 q1.sys)).store (i := 0) rfl 2 (.int .i64 q1.size)).store (i := 0) rfl 3 (.int .i64 q1.extra)
              (refine wpAnyH_ready (rs := [16]) (by kernel_rfl) (by simp) ?_; refine AllReadyH.cons rfl (fun K hK => ?_) AllReadyH.nil)
              go_simp
              refine hK.out _ _ (hcx.out _ SB.below) (fun hS4 => ?_)
              clear hK hS3 SA y0 y1 y2 y3 z0 z1 z2 z3 S9
              (try simp only [put_rules])
              (refine wpAnyH_ready (rs := [17]) (by kernel_rfl) (by simp) ?_; refine AllReadyH.cons rfl (fun K hK => ?_) AllReadyH.nil)
              go_simp
              refine hK.out _ _ hS4 (fun hS5 => ?_)
              clear hK hS4 hS5
              (try simp only [put_rules])
              (refine wpAnyH_done (by kernel_rfl) ?_ _)
              have SC := Lib.hid SB
              clear SB HS
              obtain ⟨g3, hg3⟩ : ∃ g, wr.heap.size = g := ⟨_, rfl⟩
              rw [hg3] at SC ⊢
              go_wp2_with fail
              refine wp_region_held_lit (S := (fun w' => w'.cell? ⟨b3, o3 + k * 4 + 2, none⟩ = some (.int .i64 r.size) ∧ w'.cell? ⟨g3, 2, none⟩ = some (.int .i64 q1.size))) 12 [false, false, false, false, false, false, false, false, false, false, false, false] (by kernel_rfl) (by kernel_rfl) (by kernel_rfl) ?_ ?_
              · exact ⟨(hcx.out _ SC.out.below).2.2.1, SC.out.cell (i := 0) rfl (o := 2) rfl⟩
              intro hSd
              (refine wpAnyH_take (i := 0) (v := ?_) rfl (by kernel_rfl) (by kernel_rfl) (by kernel_rfl) (fun _ _ _ h => h) (Or.inl ⟨by rfl, ?_⟩) (by assumption) ?_; rotate_left; (focus (intro w hSw; (try dsimp only at hSw); go_simp; (try with_reducible rfl); done)); (try simp only [put_rules]))
              (refine wpAnyH_take (i := 1) (v := ?_) rfl (by kernel_rfl) (by kernel_rfl) (by kernel_rfl) (fun _ _ _ h => h) (Or.inl ⟨by rfl, ?_⟩) (by assumption) ?_; rotate_left; (focus (intro w hSw; (try dsimp only at hSw); go_simp; (try with_reducible rfl); done)); (try simp only [put_rules]))
              (refine wpAnyH_take (i := 2) (v := ?_) rfl (by kernel_rfl) (by kernel_rfl) (by kernel_rfl) (fun _ _ _ h => h) (Or.inl ⟨by rfl, ?_⟩) (by assumption) ?_; rotate_left; (focus (intro w hSw; (try dsimp only at hSw); go_simp; (try with_reducible rfl); done)); (try simp only [put_rules]))
              (refine wpAnyH_take (i := 3) (v := ?_) rfl (by kernel_rfl) (by kernel_rfl) (by kernel_rfl) (fun _ _ _ h => h) (Or.inl ⟨by rfl, ?_⟩) (by assumption) ?_; rotate_left; (focus (intro w hSw; (try dsimp only at hSw); go_simp; (try with_reducible rfl); done)); (try simp only [put_rules]))
              (refine wpAnyH_take (i := 4) (v := ?_) rfl (by kernel_rfl) (by kernel_rfl) (by kernel_rfl) (fun _ _ _ h => h) (Or.inl ⟨by rfl, ?_⟩) (by assumption) ?_; rotate_left; (focus (intro w hSw; (try dsimp only at hSw); go_simp; (try with_reducible rfl); done)); (try simp only [put_rules]))
              (refine wpAnyH_take (i := 5) (v := ?_) rfl (by kernel_rfl) (by kernel_rfl) (by kernel_rfl) (fun _ _ _ h => h) (Or.inl ⟨by rfl, ?_⟩) (by assumption) ?_; rotate_left; (focus (intro w hSw; (try dsimp only at hSw); go_simp; (try with_reducible rfl); done)); (try simp only [put_rules]))
              (refine wpAnyH_take (i := 6) (v := ?_) rfl (by kernel_rfl) (by kernel_rfl) (by kernel_rfl) (fun _ _ _ h => h) (Or.inl ⟨by rfl, ?_⟩) (by assumption) ?_; rotate_left; (focus (intro w hSw; (try dsimp only at hSw); go_simp; (try with_reducible rfl); done)); (try simp only [put_rules]))
              (refine wpAnyH_take (i := 7) (v := ?_) rfl (by kernel_rfl) (by kernel_rfl) (by kernel_rfl) (fun _ _ _ h => h) (Or.inl ⟨by rfl, ?_⟩) (by assumption) ?_; rotate_left; (focus (intro w hSw; (try dsimp only at hSw); go_simp; (try with_reducible rfl); done)); (try simp only [put_rules]))
              (refine wpAnyH_take (i := 8) (v := ?_) rfl (by kernel_rfl) (by kernel_rfl) (by kernel_rfl) (fun _ _ _ h => h) (Or.inl ⟨by rfl, ?_⟩) (by assumption) ?_; rotate_left; (focus (intro w hSw; (try dsimp only at hSw); go_simp; (try with_reducible rfl); done)); (try simp only [put_rules]))
              (refine wpAnyH_take (i := 9) (v := ?_) rfl (by kernel_rfl) (by kernel_rfl) (by kernel_rfl) (fun _ _ _ h => h) (Or.inl ⟨by rfl, ?_⟩) (by assumption) ?_; rotate_left; (focus (intro w hSw; (try dsimp only at hSw); go_simp; (try with_reducible rfl); done)); (try simp only [put_rules]))
              (refine wpAnyH_take (i := 10) (v := ?_) rfl (by kernel_rfl) (by kernel_rfl) (by kernel_rfl) (fun _ _ _ h => h) (Or.inl ⟨by rfl, ?_⟩) (by assumption) ?_; rotate_left; (focus (intro w hSw; (try dsimp only at hSw); go_simp; (try with_reducible rfl); done)); (try simp only [put_rules]))
              (refine wpAnyH_take (i := 11) (v := ?_) rfl (by kernel_rfl) (by kernel_rfl) (by kernel_rfl) (fun _ _ _ h => h) (Or.inl ⟨by rfl, ?_⟩) (by assumption) ?_; rotate_left; (focus (intro w hSw; (try dsimp only at hSw); go_simp; (try with_reducible rfl); done)); (try simp only [put_rules]))
              (refine wpAnyH_done (by kernel_rfl) ?_ _)
              have HS2 := Lib.hid SC.out.drew.tail
              clear SC hSd
              go_wp2_with fail
              go_roundw
              case rel => exact ⟨k + 1, by have := hlt'.out; omega, by go_num, HS2⟩
              case measure => have := hlt'.out; simp [intOf]; omega
          · obtain rfl : k = xs.length := by omega
            rename World => wo
            have HX := HS
            clear HS
            go_wp2_with fail
            go_loopw [13] (fun vi wr => ∃ k : Nat, k ≤ ys.length ∧ vi = .int .i64 k ∧ Hid (Sp w2 wr [Recs (.slice A4 L.length c4) L, Recs (.slice A3 L.length c3) L])) (fun vi _ => ys.length - (intOf vi).toNat)
            case atStart => exact ⟨0, Nat.zero_le _, rfl, HX⟩
            case round =>
              obtain ⟨k, hk, rfl, HS⟩ := hrel
              clear HX
              by_cases hlt : k < ys.length
              · obtain ⟨q1, hq1, hq2⟩ := merge_right hmz.out (List.getElem_mem hlt)
                obtain ⟨b3, o3, rfl, hcx⟩ := row_cells hlt hry2.out
                obtain ⟨FL, hrL, -, -⟩ := HS.out.recs_row (i := 1) rfl hLg
                have hrec := Lib.hid fun W (h : Below wr.heap.size wr W) => recordOf_at (Ty.row_below (row_read hrL) h (Ty.row_lt (row_read hrL))) hbL.out hq1
                generalize ys[k] = r at hcx hrec hq2
                have hcmp : decide (r.size < q1.size) = false := decide_eq_false (by omega)
                have hc0 := hcx wr HS.out.below
                have hlt' := Lib.hid hlt
                replace hcx := Lib.hid hcx
                replace hq2 := Lib.hid hq2
                clear hrL hq1 hq2 hlt hmz
                go_wp2_with fail
                refine wp_region_held_lit (S := (fun w' => w'.cell? ⟨b3, o3 + k * 4, none⟩ = some (.string (ms r.name)) ∧ w'.cell? ⟨b3, o3 + k * 4 + 1, none⟩ = some (.int .i64 r.sys) ∧ w'.cell? ⟨b3, o3 + k * 4 + 2, none⟩ = some (.int .i64 r.size) ∧ w'.cell? ⟨b3, o3 + k * 4 + 3, none⟩ = some (.int .i64 r.extra))) 18 [false, false, false, false, false, false, false, false, false, false, false, false, false, false, false, false, false, false] (by kernel_rfl) (by kernel_rfl) (by kernel_rfl) ?_ ?_
                · exact hc0
                intro hSc
                clear hc0
                (refine wpAnyH_take (i := 0) (v := ?_) rfl (by kernel_rfl) (by kernel_rfl) (by kernel_rfl) (fun _ _ _ h => h) (Or.inl ⟨by rfl, ?_⟩) (by assumption) ?_; rotate_left; (focus (intro w hSw; (try dsimp only at hSw); go_simp; (try with_reducible rfl); done)); (try simp only [put_rules]))
                (refine wpAnyH_take (i := 1) (v := ?_) rfl (by kernel_rfl) (by kernel_rfl) (by kernel_rfl) (fun _ _ _ h => h) (Or.inl ⟨by rfl, ?_⟩) (by assumption) ?_; rotate_left; (focus (intro w hSw; (try dsimp only at hSw); go_simp; (try with_reducible rfl); done)); (try simp only [put_rules]))
                (refine wpAnyH_take (i := 2) (v := ?_) rfl (by kernel_rfl) (by kernel_rfl) (by kernel_rfl) (fun _ _ _ h => h) (Or.inl ⟨by rfl, ?_⟩) (by assumption) ?_; rotate_left; (focus (intro w hSw; (try dsimp only at hSw); go_simp; (try with_reducible rfl); done)); (try simp only [put_rules]))
                (refine wpAnyH_take (i := 3) (v := ?_) rfl (by kernel_rfl) (by kernel_rfl) (by kernel_rfl) (fun _ _ _ h => h) (Or.inl ⟨by rfl, ?_⟩) (by assumption) ?_; rotate_left; (focus (intro w hSw; (try dsimp only at hSw); go_simp; (try with_reducible rfl); done)); (try simp only [put_rules]))
                (refine wpAnyH_take (i := 4) (v := ?_) rfl (by kernel_rfl) (by kernel_rfl) (by kernel_rfl) (fun _ _ _ h => h) (Or.inl ⟨by rfl, ?_⟩) (by assumption) ?_; rotate_left; (focus (intro w hSw; (try dsimp only at hSw); go_simp; (try with_reducible rfl); done)); (try simp only [put_rules]))
                (refine wpAnyH_take (i := 5) (v := ?_) rfl (by kernel_rfl) (by kernel_rfl) (by kernel_rfl) (fun _ _ _ h => h) (Or.inl ⟨by rfl, ?_⟩) (by assumption) ?_; rotate_left; (focus (intro w hSw; (try dsimp only at hSw); go_simp; (try with_reducible rfl); done)); (try simp only [put_rules]))
                (refine wpAnyH_take (i := 6) (v := ?_) rfl (by kernel_rfl) (by kernel_rfl) (by kernel_rfl) (fun _ _ _ h => h) (Or.inl ⟨by rfl, ?_⟩) (by assumption) ?_; rotate_left; (focus (intro w hSw; (try dsimp only at hSw); go_simp; (try with_reducible rfl); done)); (try simp only [put_rules]))
                (refine wpAnyH_take (i := 7) (v := ?_) rfl (by kernel_rfl) (by kernel_rfl) (by kernel_rfl) (fun _ _ _ h => h) (Or.inl ⟨by rfl, ?_⟩) (by assumption) ?_; rotate_left; (focus (intro w hSw; (try dsimp only at hSw); go_simp; (try with_reducible rfl); done)); (try simp only [put_rules]))
                (refine wpAnyH_take (i := 8) (v := ?_) rfl (by kernel_rfl) (by kernel_rfl) (by kernel_rfl) (fun _ _ _ h => h) (Or.inl ⟨by rfl, ?_⟩) (by assumption) ?_; rotate_left; (focus (intro w hSw; (try dsimp only at hSw); go_simp; (try with_reducible rfl); done)); (try simp only [put_rules]))
                (refine wpAnyH_take (i := 9) (v := ?_) rfl (by kernel_rfl) (by kernel_rfl) (by kernel_rfl) (fun _ _ _ h => h) (Or.inl ⟨by rfl, ?_⟩) (by assumption) ?_; rotate_left; (focus (intro w hSw; (try dsimp only at hSw); go_simp; (try with_reducible rfl); done)); (try simp only [put_rules]))
                (refine wpAnyH_take (i := 10) (v := ?_) rfl (by kernel_rfl) (by kernel_rfl) (by kernel_rfl) (fun _ _ _ h => h) (Or.inl ⟨by rfl, ?_⟩) (by assumption) ?_; rotate_left; (focus (intro w hSw; (try dsimp only at hSw); go_simp; (try with_reducible rfl); done)); (try simp only [put_rules]))
                (refine wpAnyH_ready (rs := [11, 15]) (by kernel_rfl) (by simp) ?_; refine AllReadyH.cons rfl (fun K hK => ?_) (AllReadyH.cons rfl (fun K hK => ?_) AllReadyH.nil))
                · as_aux_lemma =>
                  go_simp
                  go_at_call 10
                  refine (hrec.out _ (bdr (bb _))).mono ?_
                  rintro e w9 ⟨rfl, hb9⟩
                  have S9 := HS.out.drew.grow hb9
                  go_wp2_with fail
                  refine hK.out _ _ (hcx.out _ S9.below) (fun hS2 => ?_)
                  clear hK hSc
                  (try simp only [put_rules])
                  (refine wpAnyH_take (i := 12) (v := ?_) rfl (by kernel_rfl) (by kernel_rfl) (by kernel_rfl) (fun _ _ _ h => h) (Or.inl ⟨by rfl, ?_⟩) (by assumption) ?_; rotate_left; (focus (intro w hSw; (try dsimp only at hSw); go_simp; (try with_reducible rfl); done)); (try simp only [put_rules]))
                  (refine wpAnyH_take (i := 13) (v := ?_) rfl (by kernel_rfl) (by kernel_rfl) (by kernel_rfl) (fun _ _ _ h => h) (Or.inl ⟨by rfl, ?_⟩) (by assumption) ?_; rotate_left; (focus (intro w hSw; (try dsimp only at hSw); go_simp; (try with_reducible rfl); done)); (try simp only [put_rules]))
                  (refine wpAnyH_take (i := 14) (v := ?_) rfl (by kernel_rfl) (by kernel_rfl) (by kernel_rfl) (fun _ _ _ h => h) (Or.inl ⟨by rfl, ?_⟩) (by assumption) ?_; rotate_left; (focus (intro w hSw; (try dsimp only at hSw); go_simp; (try with_reducible rfl); done)); (try simp only [put_rules]))
                  (refine wpAnyH_ready (rs := [15]) (by kernel_rfl) (by simp) ?_; refine AllReadyH.cons rfl (fun K hK => ?_) AllReadyH.nil)
                  go_simp
                  have SA := S9.alloc_box #[.string ⟨#[]⟩, .int .i64 0, .int .i64 0, .int .i64 0] 30
                  have y0 := SA.frozen (i := 0) rfl 0
                  have y1 := SA.frozen (i := 0) rfl 1
                  have y2 := SA.frozen (i := 0) rfl 2
                  have y3 := SA.frozen (i := 0) rfl 3
                  refine hK.out _ _ (hcx.out _ SA.below) (fun hS3 => ?_)
                  clear hK hS2
                  (try simp only [put_rules])
                  (refine wpAnyH_ready (rs := [16]) (by kernel_rfl) (by simp) ?_; refine AllReadyH.cons rfl (fun K hK => ?_) AllReadyH.nil)
                  go_simp
                  have SB := S9.alloc_box #[.string (ms q1.name), .int .i64 q1.sys, .int .i64 q1.size, .int .i64 q1.extra] 30
                  refine hK.out _ _ (hcx.out _ SB.below) (fun hS4 => ?_)
                  clear hK hS3 SA y0 y1 y2 y3 S9
                  (try simp only [put_rules])
                  (refine wpAnyH_ready (rs := [17]) (by kernel_rfl) (by simp) ?_; refine AllReadyH.cons rfl (fun K hK => ?_) AllReadyH.nil)
                  go_simp
                  refine hK.out _ _ hS4 (fun hS5 => ?_)
                  clear hK hS4 hS5
                  (try simp only [put_rules])
                  (refine wpAnyH_done (by kernel_rfl) ?_ _)
                  have SC := Lib.hid SB
                  clear SB HS
                  obtain ⟨g3, hg3⟩ : ∃ g, w9.heap.size = g := ⟨_, rfl⟩
                  rw [hg3] at SC ⊢
                  go_wp2_with fail
                  refine wp_region_held_lit (S := (fun w' => w'.cell? ⟨b3, o3 + k * 4 + 2, none⟩ = some (.int .i64 r.size) ∧ w'.cell? ⟨g3, 2, none⟩ = some (.int .i64 q1.size))) 12 [false, false, false, false, false, false, false, false, false, false, false, false] (by kernel_rfl) (by kernel_rfl) (by kernel_rfl) ?_ ?_
                  · exact ⟨(hcx.out _ SC.out.below).2.2.1, SC.out.cell (i := 0) rfl (o := 2) rfl⟩
                  intro hSd
                  (refine wpAnyH_take (i := 0) (v := ?_) rfl (by kernel_rfl) (by kernel_rfl) (by kernel_rfl) (fun _ _ _ h => h) (Or.inl ⟨by rfl, ?_⟩) (by assumption) ?_; rotate_left; (focus (intro w hSw; (try dsimp only at hSw); go_simp; (try with_reducible rfl); done)); (try simp only [put_rules]))
                  (refine wpAnyH_take (i := 1) (v := ?_) rfl (by kernel_rfl) (by kernel_rfl) (by kernel_rfl) (fun _ _ _ h => h) (Or.inl ⟨by rfl, ?_⟩) (by assumption) ?_; rotate_left; (focus (intro w hSw; (try dsimp only at hSw); go_simp; (try with_reducible rfl); done)); (try simp only [put_rules]))
                  (refine wpAnyH_take (i := 2) (v := ?_) rfl (by kernel_rfl) (by kernel_rfl) (by kernel_rfl) (fun _ _ _ h => h) (Or.inl ⟨by rfl, ?_⟩) (by assumption) ?_; rotate_left; (focus (intro w hSw; (try dsimp only at hSw); go_simp; (try with_reducible rfl); done)); (try simp only [put_rules]))
                  (refine wpAnyH_take (i := 3) (v := ?_) rfl (by kernel_rfl) (by kernel_rfl) (by kernel_rfl) (fun _ _ _ h => h) (Or.inl ⟨by rfl, ?_⟩) (by assumption) ?_; rotate_left; (focus (intro w hSw; (try dsimp only at hSw); go_simp; (try with_reducible rfl); done)); (try simp only [put_rules]))
                  (refine wpAnyH_take (i := 4) (v := ?_) rfl (by kernel_rfl) (by kernel_rfl) (by kernel_rfl) (fun _ _ _ h => h) (Or.inl ⟨by rfl, ?_⟩) (by assumption) ?_; rotate_left; (focus (intro w hSw; (try dsimp only at hSw); go_simp; (try with_reducible rfl); done)); (try simp only [put_rules]))
                  (refine wpAnyH_take (i := 5) (v := ?_) rfl (by kernel_rfl) (by kernel_rfl) (by kernel_rfl) (fun _ _ _ h => h) (Or.inl ⟨by rfl, ?_⟩) (by assumption) ?_; rotate_left; (focus (intro w hSw; (try dsimp only at hSw); go_simp; (try with_reducible rfl); done)); (try simp only [put_rules]))
                  (refine wpAnyH_take (i := 6) (v := ?_) rfl (by kernel_rfl) (by kernel_rfl) (by kernel_rfl) (fun _ _ _ h => h) (Or.inl ⟨by rfl, ?_⟩) (by assumption) ?_; rotate_left; (focus (intro w hSw; (try dsimp only at hSw); go_simp; (try with_reducible rfl); done)); (try simp only [put_rules]))
                  (refine wpAnyH_take (i := 7) (v := ?_) rfl (by kernel_rfl) (by kernel_rfl) (by kernel_rfl) (fun _ _ _ h => h) (Or.inl ⟨by rfl, ?_⟩) (by assumption) ?_; rotate_left; (focus (intro w hSw; (try dsimp only at hSw); go_simp; (try with_reducible rfl); done)); (try simp only [put_rules]))
                  (refine wpAnyH_take (i := 8) (v := ?_) rfl (by kernel_rfl) (by kernel_rfl) (by kernel_rfl) (fun _ _ _ h => h) (Or.inl ⟨by rfl, ?_⟩) (by assumption) ?_; rotate_left; (focus (intro w hSw; (try dsimp only at hSw); go_simp; (try with_reducible rfl); done)); (try simp only [put_rules]))
                  (refine wpAnyH_take (i := 9) (v := ?_) rfl (by kernel_rfl) (by kernel_rfl) (by kernel_rfl) (fun _ _ _ h => h) (Or.inl ⟨by rfl, ?_⟩) (by assumption) ?_; rotate_left; (focus (intro w hSw; (try dsimp only at hSw); go_simp; (try with_reducible rfl); done)); (try simp only [put_rules]))
                  (refine wpAnyH_take (i := 10) (v := ?_) rfl (by kernel_rfl) (by kernel_rfl) (by kernel_rfl) (fun _ _ _ h => h) (Or.inl ⟨by rfl, ?_⟩) (by assumption) ?_; rotate_left; (focus (intro w hSw; (try dsimp only at hSw); go_simp; (try with_reducible rfl); done)); (try simp only [put_rules]))
                  (refine wpAnyH_take (i := 11) (v := ?_) rfl (by kernel_rfl) (by kernel_rfl) (by kernel_rfl) (fun _ _ _ h => h) (Or.inl ⟨by rfl, ?_⟩) (by assumption) ?_; rotate_left; (focus (intro w hSw; (try dsimp only at hSw); go_simp; (try with_reducible rfl); done)); (try simp only [put_rules]))
                  (refine wpAnyH_done (by kernel_rfl) ?_ _)
                  have HS2 := Lib.hid SC.out.drew.tail
                  clear SC hSd
                  go_wp2_with fail
                  go_roundw
                  case rel => exact ⟨k + 1, by have := hlt'.out; omega, by go_num, HS2⟩
                  case measure => have := hlt'.out; simp [intOf]; omega
                · as_aux_lemma =>
                  go_simp
                  have SA := HS.out.drew.alloc_box #[.string ⟨#[]⟩, .int .i64 0, .int .i64 0, .int .i64 0] 30
                  rw [show wr.drew.heap.size = wr.heap.size from rfl] at SA
                  refine hK.out _ _ (hcx.out _ SA.below) (fun hS2 => ?_)
                  clear hK hSc
                  (try simp only [put_rules])
                  (refine wpAnyH_ready (rs := [11]) (by kernel_rfl) (by simp) ?_; refine AllReadyH.cons rfl (fun K hK => ?_) AllReadyH.nil)
                  go_simp
                  go_at_call 10
                  refine (hrec.out _ (bal (bdr (bb _)) _)).mono ?_
                  rintro e w9 ⟨rfl, hb9⟩
                  have S9 := SA.grow hb9
                  go_wp2_with fail
                  refine hK.out _ _ (hcx.out _ S9.below) (fun hS3 => ?_)
                  clear hK hS2
                  (try simp only [put_rules])
                  (refine wpAnyH_take (i := 12) (v := ?_) rfl (by kernel_rfl) (by kernel_rfl) (by kernel_rfl) (fun _ _ _ h => h) (Or.inl ⟨by rfl, ?_⟩) (by assumption) ?_; rotate_left; (focus (intro w hSw; (try dsimp only at hSw); go_simp; (try with_reducible rfl); done)); (try simp only [put_rules]))
                  (refine wpAnyH_take (i := 13) (v := ?_) rfl (by kernel_rfl) (by kernel_rfl) (by kernel_rfl) (fun _ _ _ h => h) (Or.inl ⟨by rfl, ?_⟩) (by assumption) ?_; rotate_left; (focus (intro w hSw; (try dsimp only at hSw); go_simp; (try with_reducible rfl); done)); (try simp only [put_rules]))
                  (refine wpAnyH_take (i := 14) (v := ?_) rfl (by kernel_rfl) (by kernel_rfl) (by kernel_rfl) (fun _ _ _ h => h) (Or.inl ⟨by rfl, ?_⟩) (by assumption) ?_; rotate_left; (focus (intro w hSw; (try dsimp only at hSw); go_simp; (try with_reducible rfl); done)); (try simp only [put_rules]))
                  have y0 := S9.frozen (i := 0) rfl 0
                  have y1 := S9.frozen (i := 0) rfl 1
                  have y2 := S9.frozen (i := 0) rfl 2
                  have y3 := S9.frozen (i := 0) rfl 3
                  have z0 := S9.cell (i := 0) rfl (o := 0) rfl
                  have z1 := S9.cell (i := 0) rfl (o := 1) rfl
                  have z2 := S9.cell (i := 0) rfl (o := 2) rfl
                  have z3 := S9.cell (i := 0) rfl (o := 3) rfl
                  have SB := (((S9.store (i := 0) rfl 0 (.string (ms q1.name))).store (i := 0) rfl 1 (.int .i64 q1.sys)).store (i := 0) rfl 2 (.int .i64 q1.size)).store (i := 0) rfl 3 (.int .i64 q1.extra)
                  (refine wpAnyH_ready (rs := [16]) (by kernel_rfl) (by simp) ?_; refine AllReadyH.cons rfl (fun K hK => ?_) AllReadyH.nil)
                  go_simp
                  refine hK.out _ _ (hcx.out _ SB.below) (fun hS4 => ?_)
                  clear hK hS3 SA y0 y1 y2 y3 z0 z1 z2 z3 S9
                  (try simp only [put_rules])
                  (refine wpAnyH_ready (rs := [17]) (by kernel_rfl) (by simp) ?_; refine AllReadyH.cons rfl (fun K hK => ?_) AllReadyH.nil)
                  go_simp
                  refine hK.out _ _ hS4 (fun hS5 => ?_)
                  clear hK hS4 hS5
                  (try simp only [put_rules])
                  (refine wpAnyH_done (by kernel_rfl) ?_ _)
                  have SC := Lib.hid SB
                  clear SB HS
                  obtain ⟨g3, hg3⟩ : ∃ g, wr.heap.size = g := ⟨_, rfl⟩
                  rw [hg3] at SC ⊢
                  go_wp2_with fail
                  refine wp_region_held_lit (S := (fun w' => w'.cell? ⟨b3, o3 + k * 4 + 2, none⟩ = some (.int .i64 r.size) ∧ w'.cell? ⟨g3, 2, none⟩ = some (.int .i64 q1.size))) 12 [false, false, false, false, false, false, false, false, false, false, false, false] (by kernel_rfl) (by kernel_rfl) (by kernel_rfl) ?_ ?_
                  · exact ⟨(hcx.out _ SC.out.below).2.2.1, SC.out.cell (i := 0) rfl (o := 2) rfl⟩
                  intro hSd
                  (refine wpAnyH_take (i := 0) (v := ?_) rfl (by kernel_rfl) (by kernel_rfl) (by kernel_rfl) (fun _ _ _ h => h) (Or.inl ⟨by rfl, ?_⟩) (by assumption) ?_; rotate_left; (focus (intro w hSw; (try dsimp only at hSw); go_simp; (try with_reducible rfl); done)); (try simp only [put_rules]))
                  (refine wpAnyH_take (i := 1) (v := ?_) rfl (by kernel_rfl) (by kernel_rfl) (by kernel_rfl) (fun _ _ _ h => h) (Or.inl ⟨by rfl, ?_⟩) (by assumption) ?_; rotate_left; (focus (intro w hSw; (try dsimp only at hSw); go_simp; (try with_reducible rfl); done)); (try simp only [put_rules]))
                  (refine wpAnyH_take (i := 2) (v := ?_) rfl (by kernel_rfl) (by kernel_rfl) (by kernel_rfl) (fun _ _ _ h => h) (Or.inl ⟨by rfl, ?_⟩) (by assumption) ?_; rotate_left; (focus (intro w hSw; (try dsimp only at hSw); go_simp; (try with_reducible rfl); done)); (try simp only [put_rules]))
                  (refine wpAnyH_take (i := 3) (v := ?_) rfl (by kernel_rfl) (by kernel_rfl) (by kernel_rfl) (fun _ _ _ h => h) (Or.inl ⟨by rfl, ?_⟩) (by assumption) ?_; rotate_left; (focus (intro w hSw; (try dsimp only at hSw); go_simp; (try with_reducible rfl); done)); (try simp only [put_rules]))
                  (refine wpAnyH_take (i := 4) (v := ?_) rfl (by kernel_rfl) (by kernel_rfl) (by kernel_rfl) (fun _ _ _ h => h) (Or.inl ⟨by rfl, ?_⟩) (by assumption) ?_; rotate_left; (focus (intro w hSw; (try dsimp only at hSw); go_simp; (try with_reducible rfl); done)); (try simp only [put_rules]))
                  (refine wpAnyH_take (i := 5) (v := ?_) rfl (by kernel_rfl) (by kernel_rfl) (by kernel_rfl) (fun _ _ _ h => h) (Or.inl ⟨by rfl, ?_⟩) (by assumption) ?_; rotate_left; (focus (intro w hSw; (try dsimp only at hSw); go_simp; (try with_reducible rfl); done)); (try simp only [put_rules]))
                  (refine wpAnyH_take (i := 6) (v := ?_) rfl (by kernel_rfl) (by kernel_rfl) (by kernel_rfl) (fun _ _ _ h => h) (Or.inl ⟨by rfl, ?_⟩) (by assumption) ?_; rotate_left; (focus (intro w hSw; (try dsimp only at hSw); go_simp; (try with_reducible rfl); done)); (try simp only [put_rules]))
                  (refine wpAnyH_take (i := 7) (v := ?_) rfl (by kernel_rfl) (by kernel_rfl) (by kernel_rfl) (fun _ _ _ h => h) (Or.inl ⟨by rfl, ?_⟩) (by assumption) ?_; rotate_left; (focus (intro w hSw; (try dsimp only at hSw); go_simp; (try with_reducible rfl); done)); (try simp only [put_rules]))
                  (refine wpAnyH_take (i := 8) (v := ?_) rfl (by kernel_rfl) (by kernel_rfl) (by kernel_rfl) (fun _ _ _ h => h) (Or.inl ⟨by rfl, ?_⟩) (by assumption) ?_; rotate_left; (focus (intro w hSw; (try dsimp only at hSw); go_simp; (try with_reducible rfl); done)); (try simp only [put_rules]))
                  (refine wpAnyH_take (i := 9) (v := ?_) rfl (by kernel_rfl) (by kernel_rfl) (by kernel_rfl) (fun _ _ _ h => h) (Or.inl ⟨by rfl, ?_⟩) (by assumption) ?_; rotate_left; (focus (intro w hSw; (try dsimp only at hSw); go_simp; (try with_reducible rfl); done)); (try simp only [put_rules]))
                  (refine wpAnyH_take (i := 10) (v := ?_) rfl (by kernel_rfl) (by kernel_rfl) (by kernel_rfl) (fun _ _ _ h => h) (Or.inl ⟨by rfl, ?_⟩) (by assumption) ?_; rotate_left; (focus (intro w hSw; (try dsimp only at hSw); go_simp; (try with_reducible rfl); done)); (try simp only [put_rules]))
                  (refine wpAnyH_take (i := 11) (v := ?_) rfl (by kernel_rfl) (by kernel_rfl) (by kernel_rfl) (fun _ _ _ h => h) (Or.inl ⟨by rfl, ?_⟩) (by assumption) ?_; rotate_left; (focus (intro w hSw; (try dsimp only at hSw); go_simp; (try with_reducible rfl); done)); (try simp only [put_rules]))
                  (refine wpAnyH_done (by kernel_rfl) ?_ _)
                  have HS2 := Lib.hid SC.out.drew.tail
                  clear SC hSd
                  go_wp2_with fail
                  go_roundw
                  case rel => exact ⟨k + 1, by have := hlt'.out; omega, by go_num, HS2⟩
                  case measure => have := hlt'.out; simp [intOf]; omega
              · obtain rfl : k = ys.length := by omega
                rename World => wo
                have hyx := Lib.hid fun W (h : Below w2.heap.size w2 W) => (implMerge_any _ _ ys xs Fy Fx a W (Ty.row_below hry2.out h (Ty.row_lt hry2.out)) (Ty.row_below hrx2.out h (Ty.row_lt hrx2.out)) (hE2.out.grow h)).mono (fun e w' hp => mrg_row (ok := true) (by rw [merge_comm hmz.out]; rfl) (by rw [merge_comm hmz.out, Option.getD_some]) hp)
                go_wp2_with fail
                refine (hyx.out _ HS.out.below).mono ?_
                rintro e w5 ⟨A5, c5, rfl, T5⟩
                have S9 := HS.out.seq T5
                obtain ⟨FL, hrL, -, -⟩ := S9.recs_row (i := 2) rfl hLg
                have hself := (implMerge_any _ _ L L FL FL a w5 (row_read hrL) (row_read hrL) (hE2.out.grow S9.below)).mono (fun e w' hp => mrg_row (ok := true) (by rw [merge_self hbL.out]; rfl) (by rw [merge_self hbL.out, Option.getD_some]) hp)
                replace S9 := Lib.hid S9
                clear HS hyx hrL T5
                go_wp2_with fail
                refine hself.mono ?_
                rintro e w6 ⟨A6, c6, rfl, T6⟩
                have S10 := Lib.hid (S9.out.seq T6)
                clear S9 T6 hself
                go_wp2_with fail
                go_loopw [20] (fun vi wr => ∃ k : Nat, k ≤ L.length ∧ vi = .int .i64 k ∧ Hid (Sp w2 wr [Recs (.slice A6 L.length c6) L, Recs (.slice A5 L.length c5) L, Recs (.slice A4 L.length c4) L, Recs (.slice A3 L.length c3) L])) (fun vi _ => L.length - (intOf vi).toNat)
                case atStart => exact ⟨0, Nat.zero_le _, rfl, S10⟩
                case round =>
                  obtain ⟨k, hk, rfl, HS⟩ := hrel
                  clear S10
                  by_cases hlt : k < L.length
                  · obtain ⟨F3, r3, -, -⟩ := HS.out.recs_row (i := 3) rfl hLg
                    obtain ⟨F5, r5, -, -⟩ := HS.out.recs_row (i := 1) rfl hLg
                    obtain ⟨F6, r6, -, -⟩ := HS.out.recs_row (i := 0) rfl hLg
                    obtain ⟨b3, o3, rfl, h3⟩ := row_cells hlt (row_read r3)
                    obtain ⟨b5, o5, rfl, h5⟩ := row_cells hlt (row_read r5)
                    obtain ⟨b6, o6, rfl, h6⟩ := row_cells hlt (row_read r6)
                    have hneq := fun W => neq_rec L[k] W
                    generalize L[k] = r at h3 h5 h6 hneq
                    have k3 := h3 wr (bb wr)
                    have k5 := h5 wr (bb wr)
                    have k6 := h6 wr (bb wr)
                    have hlt' := Lib.hid hlt
                    clear h3 h5 h6 r3 r5 r6 hlt
                    go_wp2_with fail
                    refine wp_region_held_lit (S := (fun w' => (w'.cell? ⟨b5, o5 + k * 4, none⟩ = some (.string (ms r.name)) ∧ w'.cell? ⟨b5, o5 + k * 4 + 1, none⟩ = some (.int .i64 r.sys) ∧ w'.cell? ⟨b5, o5 + k * 4 + 2, none⟩ = some (.int .i64 r.size) ∧ w'.cell? ⟨b5, o5 + k * 4 + 3, none⟩ = some (.int .i64 r.extra)) ∧ (w'.cell? ⟨b3, o3 + k * 4, none⟩ = some (.string (ms r.name)) ∧ w'.cell? ⟨b3, o3 + k * 4 + 1, none⟩ = some (.int .i64 r.sys) ∧ w'.cell? ⟨b3, o3 + k * 4 + 2, none⟩ = some (.int .i64 r.size) ∧ w'.cell? ⟨b3, o3 + k * 4 + 3, none⟩ = some (.int .i64 r.extra)) ∧ (w'.cell? ⟨b6, o6 + k * 4, none⟩ = some (.string (ms r.name)) ∧ w'.cell? ⟨b6, o6 + k * 4 + 1, none⟩ = some (.int .i64 r.sys) ∧ w'.cell? ⟨b6, o6 + k * 4 + 2, none⟩ = some (.int .i64 r.size) ∧ w'.cell? ⟨b6, o6 + k * 4 + 3, none⟩ = some (.int .i64 r.extra)))) 20 [false, false, false, false, false, false, false, false, false, false, false, false, false, false, false, false, false, false, false, false] (by kernel_rfl) (by kernel_rfl) (by kernel_rfl) ?_ ?_
                    · exact ⟨k5, k3, k6⟩
                    intro hSc
                    clear k3 k5 k6
                    (refine wpAnyH_take (i := 0) (v := ?_) rfl (by kernel_rfl) (by kernel_rfl) (by kernel_rfl) (fun _ _ _ h => h) (Or.inl ⟨by rfl, ?_⟩) (by assumption) ?_; rotate_left; (focus (intro w hSw; (try dsimp only at hSw); go_simp; (try with_reducible rfl); done)); (try simp only [put_rules]))
                    (refine wpAnyH_take (i := 1) (v := ?_) rfl (by kernel_rfl) (by kernel_rfl) (by kernel_rfl) (fun _ _ _ h => h) (Or.inl ⟨by rfl, ?_⟩) (by assumption) ?_; rotate_left; (focus (intro w hSw; (try dsimp only at hSw); go_simp; (try with_reducible rfl); done)); (try simp only [put_rules]))
                    (refine wpAnyH_take (i := 2) (v := ?_) rfl (by kernel_rfl) (by kernel_rfl) (by kernel_rfl) (fun _ _ _ h => h) (Or.inl ⟨by rfl, ?_⟩) (by assumption) ?_; rotate_left; (focus (intro w hSw; (try dsimp only at hSw); go_simp; (try with_reducible rfl); done)); (try simp only [put_rules]))
                    (refine wpAnyH_take (i := 3) (v := ?_) rfl (by kernel_rfl) (by kernel_rfl) (by kernel_rfl) (fun _ _ _ h => h) (Or.inl ⟨by rfl, ?_⟩) (by assumption) ?_; rotate_left; (focus (intro w hSw; (try dsimp only at hSw); go_simp; (try with_reducible rfl); done)); (try simp only [put_rules]))
                    (refine wpAnyH_take (i := 4) (v := ?_) rfl (by kernel_rfl) (by kernel_rfl) (by kernel_rfl) (fun _ _ _ h => h) (Or.inl ⟨by rfl, ?_⟩) (by assumption) ?_; rotate_left; (focus (intro w hSw; (try dsimp only at hSw); go_simp; (try with_reducible rfl); done)); (try simp only [put_rules]))
                    (refine wpAnyH_take (i := 5) (v := ?_) rfl (by kernel_rfl) (by kernel_rfl) (by kernel_rfl) (fun _ _ _ h => h) (Or.inl ⟨by rfl, ?_⟩) (by assumption) ?_; rotate_left; (focus (intro w hSw; (try dsimp only at hSw); go_simp; (try with_reducible rfl); done)); (try simp only [put_rules]))
                    (refine wpAnyH_take (i := 6) (v := ?_) rfl (by kernel_rfl) (by kernel_rfl) (by kernel_rfl) (fun _ _ _ h => h) (Or.inl ⟨by rfl, ?_⟩) (by assumption) ?_; rotate_left; (focus (intro w hSw; (try dsimp only at hSw); go_simp; (try with_reducible rfl); done)); (try simp only [put_rules]))
                    (refine wpAnyH_take (i := 7) (v := ?_) rfl (by kernel_rfl) (by kernel_rfl) (by kernel_rfl) (fun _ _ _ h => h) (Or.inl ⟨by rfl, ?_⟩) (by assumption) ?_; rotate_left; (focus (intro w hSw; (try dsimp only at hSw); go_simp; (try with_reducible rfl); done)); (try simp only [put_rules]))
                    (refine wpAnyH_ready (rs := [8]) (by kernel_rfl) (by simp) ?_; refine AllReadyH.cons rfl (fun K hK => ?_) AllReadyH.nil)
                    go_simp
                    refine hK.out _ _ hSc (fun hS2 => ?_)
                    clear hK hSc
                    (try simp only [put_rules])
                    (refine wpAnyH_take (i := 9) (v := ?_) rfl (by kernel_rfl) (by kernel_rfl) (by kernel_rfl) (fun _ _ _ h => h) (Or.inl ⟨by rfl, ?_⟩) (by assumption) ?_; rotate_left; (focus (intro w hSw; (try dsimp only at hSw); go_simp; (try with_reducible rfl); done)); (try simp only [put_rules]))
                    (refine wpAnyH_take (i := 10) (v := ?_) rfl (by kernel_rfl) (by kernel_rfl) (by kernel_rfl) (fun _ _ _ h => h) (Or.inl ⟨by rfl, ?_⟩) (by assumption) ?_; rotate_left; (focus (intro w hSw; (try dsimp only at hSw); go_simp; (try with_reducible rfl); done)); (try simp only [put_rules]))
                    (refine wpAnyH_take (i := 11) (v := ?_) rfl (by kernel_rfl) (by kernel_rfl) (by kernel_rfl) (fun _ _ _ h => h) (Or.inl ⟨by rfl, ?_⟩) (by assumption) ?_; rotate_left; (focus (intro w hSw; (try dsimp only at hSw); go_simp; (try with_reducible rfl); done)); (try simp only [put_rules]))
                    (refine wpAnyH_take (i := 12) (v := ?_) rfl (by kernel_rfl) (by kernel_rfl) (by kernel_rfl) (fun _ _ _ h => h) (Or.inl ⟨by rfl, ?_⟩) (by assumption) ?_; rotate_left; (focus (intro w hSw; (try dsimp only at hSw); go_simp; (try with_reducible rfl); done)); (try simp only [put_rules]))
                    (refine wpAnyH_take (i := 13) (v := ?_) rfl (by kernel_rfl) (by kernel_rfl) (by kernel_rfl) (fun _ _ _ h => h) (Or.inl ⟨by rfl, ?_⟩) (by assumption) ?_; rotate_left; (focus (intro w hSw; (try dsimp only at hSw); go_simp; (try with_reducible rfl); done)); (try simp only [put_rules]))
                    (refine wpAnyH_take (i := 14) (v := ?_) rfl (by kernel_rfl) (by kernel_rfl) (by kernel_rfl) (fun _ _ _ h => h) (Or.inl ⟨by rfl, ?_⟩) (by assumption) ?_; rotate_left; (focus (intro w hSw; (try dsimp only at hSw); go_simp; (try with_reducible rfl); done)); (try simp only [put_rules]))
                    (refine wpAnyH_take (i := 15) (v := ?_) rfl (by kernel_rfl) (by kernel_rfl) (by kernel_rfl) (fun _ _ _ h => h) (Or.inl ⟨by rfl, ?_⟩) (by assumption) ?_; rotate_left; (focus (intro w hSw; (try dsimp only at hSw); go_simp; (try with_reducible rfl); done)); (try simp only [put_rules]))
                    (refine wpAnyH_take (i := 16) (v := ?_) rfl (by kernel_rfl) (by kernel_rfl) (by kernel_rfl) (fun _ _ _ h => h) (Or.inl ⟨by rfl, ?_⟩) (by assumption) ?_; rotate_left; (focus (intro w hSw; (try dsimp only at hSw); go_simp; (try with_reducible rfl); done)); (try simp only [put_rules]))
                    (refine wpAnyH_take (i := 17) (v := ?_) rfl (by kernel_rfl) (by kernel_rfl) (by kernel_rfl) (fun _ _ _ h => h) (Or.inl ⟨by rfl, ?_⟩) (by assumption) ?_; rotate_left; (focus (intro w hSw; (try dsimp only at hSw); go_simp; (try with_reducible rfl); done)); (try simp only [put_rules]))
                    (refine wpAnyH_ready (rs := [18]) (by kernel_rfl) (by simp) ?_; refine AllReadyH.cons rfl (fun K hK => ?_) AllReadyH.nil)
                    go_simp
                    refine hK.out _ _ hS2 (fun hS3 => ?_)
                    clear hK hS2
                    (try simp only [put_rules])
                    (refine wpAnyH_take (i := 19) (v := ?_) rfl (by kernel_rfl) (by kernel_rfl) (by kernel_rfl) (fun _ _ _ h => h) (Or.inl ⟨by rfl, ?_⟩) (by assumption) ?_; rotate_left; (focus (intro w hSw; (try dsimp only at hSw); go_simp; (try with_reducible rfl); done)); (try simp only [put_rules]))
                    have HS2 := Lib.hid HS.out.drew
                    clear HS hS3 hneq
                    (refine wpAnyH_done (by kernel_rfl) ?_ _)
                    go_wp2_with fail
                    go_roundw
                    case rel => exact ⟨k + 1, by have := hlt'.out; omega, by go_num, HS2⟩
                    case measure => have := hlt'.out; simp [intOf]; omega
                  · obtain rfl : k = L.length := by omega
                    have hB9 := Lib.hid HS.out.below
                    clear HS
                    go_wp2_with fail
                    go_meet
                    exact hB9
      case rest =>
        have hB8 := hcut
        clear S7 hok hq hL hLg hL24
        obtain ⟨tx, htx⟩ : ∃ tx, ms (textB xs) = tx := ⟨_, rfl⟩
        go_wp2_with fail
        refine (hib.out _ hB8.out).mono ?_
        rintro e w9 ⟨rfl, hb9⟩
        have hB9 := Lib.hid (btr hB8.out hb9)
        have hbt := text_at (hP2.out.grow hB9.out).pw (hbx.out _ hB9.out) hbk
        rw [htx] at hbt
        clear hB8 hb9 hcut
        go_wp2_with fail
        refine hbt.mono ?_
        rintro e w10 ⟨rfl, hb10⟩
        have hB10 := Lib.hid (btr hB9.out hb10)
        have hpa := parse_book hbk (hP2.out.grow hB10.out)
        rw [htx] at hpa
        clear hB9 hb10 hbt
        go_wp2_with fail
        refine hpa.mono ?_
        rintro e w11 ⟨A11, c11, rfl, S11⟩
        have hB11 := Lib.hid (btr hB10.out S11.below)
        obtain ⟨F11, r11, -, -⟩ := S11.recs_row (i := 0) rfl hxg
        replace r11 := Lib.hid (row_read r11)
        have hno := namesOf_at (hbx.out _ hB11.out) hbk
        clear hB10 S11 hpa
        go_wp2_with fail
        refine hno.mono ?_
        rintro e w12 ⟨A12, c12, ns, rfl, hn24, hns, hb12, hnm⟩
        have hB12 := Lib.hid (btr hB11.out hb12)
        have r12 := Lib.hid (Ty.row_below r11.out hb12 (Ty.row_lt r11.out))
        have hst := specText_at (hbx.out _ hB12.out) hbk
        rw [htx] at hst
        replace hns := Lib.hid hns
        replace hnm := Lib.hid hnm
        clear hB11 r11 hno hb12
        go_wp2_with fail
        refine hst.mono ?_
        rintro e w13 ⟨rfl, hb13⟩
        have hB13 := Lib.hid (btr hB12.out hb13)
        have r13 := Lib.hid (Ty.row_below r12.out hb13 (Ty.row_lt r12.out))
        have hnm3 := Lib.hid fun W (h : Below w13.heap.size w13 W) => hnm.out W (btr hb13 h)
        clear hB12 r12 hst hb13 hnm
        go_wp2_with fail
        go_loopw [29] (fun vi wr => ∃ k : Nat, k ≤ xs.length ∧ vi = .int .i64 k ∧ Hid (Below w13.heap.size w13 wr)) (fun vi _ => xs.length - (intOf vi).toNat)
        case atStart => exact ⟨0, Nat.zero_le _, rfl, bb _⟩
        case round =>
          obtain ⟨k, hk, rfl, HB⟩ := hrel
          by_cases hlt : k < xs.length
          · as_aux_lemma =>
            obtain ⟨b3, o3, rfl, h3⟩ := row_cells hlt r13.out
            obtain ⟨b5, o5, rfl, h5⟩ := row_cells hlt (hbx.out _ hB13.out)
            have hneq := fun W => neq_rec xs[k] W
            generalize xs[k] = r at h3 h5 hneq
            have k3 := h3 wr HB.out
            have k5 := h5 wr HB.out
            have hlt' := Lib.hid hlt
            clear h3 h5 hlt
            go_wp2_with fail
            refine wp_region_held_lit (S := (fun w' => (w'.cell? ⟨b3, o3 + k * 4, none⟩ = some (.string (ms r.name)) ∧ w'.cell? ⟨b3, o3 + k * 4 + 1, none⟩ = some (.int .i64 r.sys) ∧ w'.cell? ⟨b3, o3 + k * 4 + 2, none⟩ = some (.int .i64 r.size) ∧ w'.cell? ⟨b3, o3 + k * 4 + 3, none⟩ = some (.int .i64 r.extra)) ∧ (w'.cell? ⟨b5, o5 + k * 4, none⟩ = some (.string (ms r.name)) ∧ w'.cell? ⟨b5, o5 + k * 4 + 1, none⟩ = some (.int .i64 r.sys) ∧ w'.cell? ⟨b5, o5 + k * 4 + 2, none⟩ = some (.int .i64 r.size) ∧ w'.cell? ⟨b5, o5 + k * 4 + 3, none⟩ = some (.int .i64 r.extra)))) 9 [false, false, false, false, false, false, false, false, false] (by kernel_rfl) (by kernel_rfl) (by kernel_rfl) ?_ ?_
            · exact ⟨k3, k5⟩
            intro hSc
            (refine wpAnyH_take (i := 0) (v := ?_) rfl (by kernel_rfl) (by kernel_rfl) (by kernel_rfl) (fun _ _ _ h => h) (Or.inl ⟨by rfl, ?_⟩) (by assumption) ?_; rotate_left; (focus (intro w hSw; (try dsimp only at hSw); go_simp; (try with_reducible rfl); done)); (try simp only [put_rules]))
            (refine wpAnyH_take (i := 1) (v := ?_) rfl (by kernel_rfl) (by kernel_rfl) (by kernel_rfl) (fun _ _ _ h => h) (Or.inl ⟨by rfl, ?_⟩) (by assumption) ?_; rotate_left; (focus (intro w hSw; (try dsimp only at hSw); go_simp; (try with_reducible rfl); done)); (try simp only [put_rules]))
            (refine wpAnyH_take (i := 2) (v := ?_) rfl (by kernel_rfl) (by kernel_rfl) (by kernel_rfl) (fun _ _ _ h => h) (Or.inl ⟨by rfl, ?_⟩) (by assumption) ?_; rotate_left; (focus (intro w hSw; (try dsimp only at hSw); go_simp; (try with_reducible rfl); done)); (try simp only [put_rules]))
            (refine wpAnyH_take (i := 3) (v := ?_) rfl (by kernel_rfl) (by kernel_rfl) (by kernel_rfl) (fun _ _ _ h => h) (Or.inl ⟨by rfl, ?_⟩) (by assumption) ?_; rotate_left; (focus (intro w hSw; (try dsimp only at hSw); go_simp; (try with_reducible rfl); done)); (try simp only [put_rules]))
            (refine wpAnyH_take (i := 4) (v := ?_) rfl (by kernel_rfl) (by kernel_rfl) (by kernel_rfl) (fun _ _ _ h => h) (Or.inl ⟨by rfl, ?_⟩) (by assumption) ?_; rotate_left; (focus (intro w hSw; (try dsimp only at hSw); go_simp; (try with_reducible rfl); done)); (try simp only [put_rules]))
            (refine wpAnyH_take (i := 5) (v := ?_) rfl (by kernel_rfl) (by kernel_rfl) (by kernel_rfl) (fun _ _ _ h => h) (Or.inl ⟨by rfl, ?_⟩) (by assumption) ?_; rotate_left; (focus (intro w hSw; (try dsimp only at hSw); go_simp; (try with_reducible rfl); done)); (try simp only [put_rules]))
            (refine wpAnyH_take (i := 6) (v := ?_) rfl (by kernel_rfl) (by kernel_rfl) (by kernel_rfl) (fun _ _ _ h => h) (Or.inl ⟨by rfl, ?_⟩) (by assumption) ?_; rotate_left; (focus (intro w hSw; (try dsimp only at hSw); go_simp; (try with_reducible rfl); done)); (try simp only [put_rules]))
            (refine wpAnyH_take (i := 7) (v := ?_) rfl (by kernel_rfl) (by kernel_rfl) (by kernel_rfl) (fun _ _ _ h => h) (Or.inl ⟨by rfl, ?_⟩) (by assumption) ?_; rotate_left; (focus (intro w hSw; (try dsimp only at hSw); go_simp; (try with_reducible rfl); done)); (try simp only [put_rules]))
            (refine wpAnyH_ready (rs := [8]) (by kernel_rfl) (by simp) ?_; refine AllReadyH.cons rfl (fun K hK => ?_) AllReadyH.nil)
            go_simp
            refine hK.out _ _ hSc (fun hS2 => ?_)
            have HB2 := Lib.hid (bdr HB.out)
            clear hK hS2 hSc HB k3 k5 hneq
            (try simp only [put_rules])
            (refine wpAnyH_done (by kernel_rfl) ?_ _)
            go_wp2_with fail
            go_roundw
            case rel => exact ⟨k + 1, by have := hlt'.out; omega, by go_num, HB2⟩
            case measure => have := hlt'.out; simp [intOf]; omega
          · obtain rfl : k = xs.length := by omega
            rename World => wo
            have hBo := HB
            clear HB hlt hk r13
            go_wp2_with fail
            go_loopw [30] (fun vi wr => ∃ k : Nat, k ≤ ns.length ∧ vi = .int .i64 k ∧ Hid (Below w13.heap.size w13 wr)) (fun vi _ => ns.length - (intOf vi).toNat)
            case atStart => exact ⟨0, Nat.zero_le _, rfl, hBo⟩
            case round =>
              obtain ⟨k, hk, rfl, HB⟩ := hrel
              clear hBo
              by_cases hlt : k < ns.length
              · have hin := hns.out _ (List.getElem_mem hlt)
                obtain ⟨g, rfl, -⟩ := hnm3.out _ HB.out k hlt
                have hA : ∀ W, Below w13.heap.size w13 W → W.cell? ⟨g, k, none⟩ = some (.string (ms ns[k])) := fun W h => by
                  obtain ⟨g', e, h'⟩ := hnm3.out W h k hlt
                  cases e; exact h'
                generalize ns[k] = n at hA hin
                have hlt' := Lib.hid hlt
                have k0 := hA _ HB.out
                replace hA := Lib.hid hA
                replace hin := Lib.hid hin
                clear hlt
                go_wp2_with fail
                refine (dropName_any _ xs n Fx _ (hbx.out _ (btr hB13.out HB.out)) hbk hin.out).mono ?_
                rintro e w14 ⟨A14, m, c14, hm, rfl, hb14⟩
                have hge : ¬ xs.length ≤ m := by omega
                have HB2 := Lib.hid (btr HB.out hb14)
                have k1 := hA.out _ HB2.out
                have hsm := smallest_at (hbx.out _ (btr hB13.out HB2.out)) hbk hin.out
                have hbr := Lib.hid (best_rec hbk hin.out)
                obtain ⟨q, hq⟩ : ∃ q, bestR xs n = q := ⟨_, rfl⟩
                rw [hq] at hsm hbr
                clear HB k0 hb14 hq hm
                go_wp2_with fail
                refine hsm.mono ?_
                rintro e w15 ⟨rfl, hb15⟩
                have HB3 := Lib.hid (btr HB2.out hb15)
                have k2 := hA.out _ HB3.out
                have hro := recordOf_at (hbx.out _ (btr hB13.out HB3.out)) hbk hbr.out
                clear HB2 k1 hb15 hsm
                go_wp2_with fail
                refine hro.mono ?_
                rintro e w16 ⟨rfl, hb16⟩
                have HB4 := Lib.hid (bal (btr HB3.out hb16) (.cells #[.string (ms q.name), .int .i64 q.sys, .int .i64 q.size, .int .i64 q.extra] 30))
                clear HB3 k2 hb16 hro
                go_wp2_with fail
                go_roundw
                case rel => exact ⟨k + 1, by have := hlt'.out; omega, by go_num, HB4⟩
                case measure => have := hlt'.out; simp [intOf]; omega
              · obtain rfl : k = ns.length := by omega
                have hBz := Lib.hid (btr (btr hB2w.out hB13.out) HB.out)
                clear HB
                go_wp2_with fail
                go_ret
                exact ⟨rfl, hBz.out⟩
end Go.Proofs.YtpiimlmfcdjbbaaGreatDoor
