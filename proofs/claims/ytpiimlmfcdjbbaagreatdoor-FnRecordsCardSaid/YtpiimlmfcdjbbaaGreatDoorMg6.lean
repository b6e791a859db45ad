/- Lemmas and contracts for a law, put together out of several texts: BmH. -/
import Derived.Test.YtpiimlmfcdjbbaaGreatDoorMg5
/- Contracts: books merged, in the program. -/
namespace Go.Proofs.YtpiimlmfcdjbbaaGreatDoor
open Go.RowKit

/-- What a merge gives: a row of its own, and whether there is a book. -/
def MrgPost (o : Option (List Rec)) (w : World) (e : Ending) (w' : World) : Prop :=
  ∃ A c, e = .returned (.tuple #[.slice A (o.getD []).length c, .bool o.isSome]) ∧ Sp w w' [Recs (.slice A (o.getD []).length c) (o.getD [])]
theorem MrgPost.none' {o : Option (List Rec)} {w w' : World} (h : o = none) (hb : Below w.heap.size w w') : MrgPost o w (.returned (.tuple #[.slice none 0 0, .bool false])) w' := by
  subst h
  exact ⟨none, 0, rfl, (Sp.of_below hb).own_nil _ _⟩
theorem entOk_go {zs : List Rec} {r : Rec} (h1 : bookB zs = true) (h2 : recB r = true) : entOk zs r = bookB (entR zs r) := by unfold entOk; rw [h1, h2, Bool.true_and, Bool.and_true]

set_option maxRecDepth 100000 in
set_option maxHeartbeats 8000000 in
theorem implMerge_any (vx vy : Value) (xs ys : List Rec) (Fx Fy : List Nat) (a : Addr) (w : World) (hx : rcTy.row false w vx xs Fx) (hy : rcTy.row false w vy ys Fy) (hE : ErrB a w) :
    Calls Tryz.prog 6 #[vx, vy] w (MrgPost (mergeA xs ys) w) := by
  obtain ⟨Ax, cx, rfl, -, hgx, -⟩ := rec_src hx
  have hyr := hy
  obtain ⟨Ay, cy, rfl, hy1, hy2, hgy, hy3⟩ := row_rc hyr
  have hx2 := Lib.hid (fun W (h : Below w.heap.size w W) => Ty.row_below hx h (Ty.row_lt hx))
  have hy4 := Lib.hid (fun W (h : Below w.heap.size w W) => Ty.row_below hy h (Ty.row_lt hy))
  replace hE := Lib.hid hE
  clear hx hy hyr
  cases hb1 : bookB xs
  · have hR : Hid (mergeA xs ys = none) := merge_no (by rw [hb1]; rfl)
    go_enter Tryz.func6, Tryz.ntmps6
    go_wp2_with fail
    refine (isBookR_at (hx2.out _ (bb _)) hb1).mono ?_
    rintro e w1 ⟨rfl, hb1⟩
    replace hb1 := Lib.hid hb1
    go_wp2_with fail
    go_ret2
    exact MrgPost.none' hR.out hb1.out
  cases hb2 : bookB ys
  · have hR : Hid (mergeA xs ys = none) := merge_no (by rw [hb2, Bool.and_false])
    go_enter Tryz.func6, Tryz.ntmps6
    go_wp2_with fail
    refine (isBookR_at (hx2.out _ (bb _)) hb1).mono ?_
    rintro e w1 ⟨rfl, hw1⟩
    replace hw1 := Lib.hid hw1
    go_wp2_with fail
    refine (isBookR_at (hy4.out _ hw1.out) hb2).mono ?_
    rintro e w2 ⟨rfl, hw2⟩
    have hB := Lib.hid (btr hw1.out hw2)
    go_wp2_with fail
    go_ret2
    exact MrgPost.none' hR.out hB.out
  have hR : Hid (mergeA xs ys = mergeTo xs ys) := merge_go hb1 hb2
  have h24 := book_le' hb1
  have hbx := Lib.hid hb1
  have hby := Lib.hid hb2
  go_enter Tryz.func6, Tryz.ntmps6
  go_wp2_with fail
  refine (isBookR_at (hx2.out _ (bb _)) hb1).mono ?_
  rintro e w1 ⟨rfl, hw1⟩
  replace hw1 := Lib.hid hw1
  go_wp2_with fail
  refine (isBookR_at (hy4.out _ hw1.out) hb2).mono ?_
  rintro e w2 ⟨rfl, hw2⟩
  have S2 := Lib.hid (Sp.of_below (btr hw1.out hw2))
  clear hw1 hw2 hb1 hb2
  go_wp2_with fail
  refine (cloneR_any _ xs Fx _ (hx2.out _ S2.out.below) (by omega)).mono ?_
  rintro e w3 ⟨A, c, rfl, SC⟩
  have S3 := Lib.hid (S2.out.seq SC)
  clear S2 SC hx2
  go_wp2_with fail
  go_loopw [6, 23] (fun vo vi wr => ∃ (k : Nat) (A : Option Addr) (c : Nat) (zs : List Rec), k ≤ ys.length ∧ vi = .int .i64 k ∧ vo = .slice A zs.length c ∧ Hid (mergeTo xs (ys.take k) = some zs) ∧ Hid (∀ z ∈ zs, rcOk z) ∧ Hid (Sp w wr [Recs (.slice A zs.length c) zs])) (fun _ vi _ => ys.length - (intOf vi).toNat)
  case atStart => exact ⟨0, A, c, xs, Nat.zero_le _, rfl, rfl, rfl, hgx, S3⟩
  case round =>
    obtain ⟨k, A, c, zs, hk, rfl, rfl, HM, HG, HS⟩ := hrel
    clear S3
    by_cases hlt : k < ys.length
    · rcases hy3 with ⟨rfl, rfl⟩ | ⟨hxn, b, off, rfl, rfl, hxc⟩
      · exact absurd hlt (by simp)
      obtain ⟨p0, p1, p2, p3⟩ := hxc k hlt
      have hp := HS.out.below.block b p0.lt
      have k0 := (p0.keep hp).1
      have k1 := (p1.keep hp).1
      have k2 := (p2.keep hp).1
      have k3 := (p3.keep hp).1
      have hzb : bookB zs = true := mergeTo_book hbx.out HM.out
      have hrb : recB ys[k] = true := book_rec hby.out k hlt
      have hok := entOk_go hzb hrb
      have hgr := hgy _ (List.getElem_mem hlt)
      have hnx : Hid (∀ q, bookB (entR zs ys[k]) = q → (q = true → mergeTo xs (ys.take (k + 1)) = some (entR zs ys[k])) ∧ (q = false → mergeA xs ys = none)) := fun q hq => ⟨fun h => mergeTo_next hlt HM.out (hq.trans h), fun h => hR.out.trans (mergeTo_stop hlt HM.out (hq.trans h))⟩
      have hgn := Lib.hid (entR_all HG.out hgr)
      have S1 := HS.out.alloc_box #[.string (ms ys[k].name), .int .i64 ys[k].sys, .int .i64 ys[k].size, .int .i64 ys[k].extra] 30
      have b0 := S1.cell (i := 0) rfl (o := 0) rfl
      have b1 := S1.cell (i := 0) rfl (o := 1) rfl
      have b2 := S1.cell (i := 0) rfl (o := 2) rfl
      have b3 := S1.cell (i := 0) rfl (o := 3) rfl
      obtain ⟨F1, hr1, -, -⟩ := S1.recs_row (i := 1) rfl HG.out
      have hcall := enter_any _ zs ys[k] F1 a _ (row_read hr1) hgr (hE.out.grow S1.below)
      rw [hok] at hcall
      replace hcall := Lib.hid hcall
      replace S1 := Lib.hid S1
      clear p0 p1 p2 p3 hp hxc hr1 HS HM HG hok hzb hrb
      generalize ys[k] = r at *
      obtain ⟨q, hq⟩ : ∃ q, bookB (entR zs r) = q := ⟨_, rfl⟩
      have hnx2 := Lib.hid (hnx.out q hq)
      rw [hq] at hcall
      generalize entR zs r = es at *
      clear hq hnx hgr
      go_wp2_with fail
      refine hcall.out.mono ?_
      rintro e w4 (⟨rfl, A4, c4, rfl, S4⟩ | ⟨rfl, rfl, hb4⟩)
      · have S5 := Lib.hid ((S1.out.seq S4).pick [0] rfl)
        have hM2 := Lib.hid (hnx2.out.1 rfl)
        clear S1 S4 hcall hnx2 k0 k1 k2 k3 b0 b1 b2 b3
        go_wp2_with fail
        go_roundw
        case rel => exact ⟨k + 1, A4, c4, es, by omega, by go_num, rfl, hM2, hgn, S5⟩
        case measure => simp [intOf]; omega
      · have hB := Lib.hid (S1.out.grow hb4).below
        have hM2 := Lib.hid (hnx2.out.2 rfl)
        clear S1 hb4 hcall hnx2 k0 k1 k2 k3 b0 b1 b2 b3
        go_wp2_with fail
        go_ret2
        exact MrgPost.none' hM2.out hB.out
    · obtain rfl : k = ys.length := by omega
      have hE2 : Hid (mergeA xs ys = some zs) := by
        have := HM.out
        rw [List.take_length] at this
        exact hR.out.trans this
      clear HM hR
      go_wp2_with fail
      go_ret2
      refine ⟨A, c, ?_, ?_⟩
      · rw [hE2.out]; rfl
      · rw [hE2.out]; exact HS.out
end Go.Proofs.YtpiimlmfcdjbbaaGreatDoor
