/- Contracts: the inputs that are drawn from bytes. -/
import Derived.Test.YtfcekfomhpmgpaaDoorCurD
import Derived.Test.YtfcekfomhpmgpaaDoorLogL
import Derived.Laws.OwnMore
namespace Go.Proofs.YtfcekfomhpmgpaaDoor
open Go.RowKit

section
variable {w0 w W : World} {ps : List Asn} {g cl cc : Nat} {ca : Option Addr}
theorem Sp.alloc_cur (h : Sp w0 w ps) (ca : Option Addr) (cl cc : Nat) : Sp w0 (w.alloc (.cells #[.slice ca cl cc, .int .i64 0, .int .u64 0] 90)) (CurA 0 w.heap.size ca cl cc :: ps) :=
  h.new (bal (bb _) _) (F := [w.heap.size]) ⟨rfl, 0, 0, heap_alloc_new w _, Nat.le_refl 0, Int.le_refl 0, by omega⟩ (by simp)
theorem cur_new (hc : CodeOk w ca cl) (hs : cl ≤ 65536) : CurIs 0 w.heap.size ca cl cc (w.alloc (.cells #[.slice ca cl cc, .int .i64 0, .int .u64 0] 90)) :=
  (((Sp.start w).alloc_cur ca cl cc).cur (A' := 0) (i := 0) rfl hc hs).1
end

set_option maxRecDepth 100000 in
theorem mk_bytes (k : Nat) (hk : k ≤ 1000000) (x : Int) (hx : x = k) (w : World) :
    (Instr.makeSlice 53 (.int .i64 x) (.int .i64 x)).run Tryd.prog w = .ok (.slice (some ⟨w.heap.size, 0, none⟩) k k) (w.alloc (.cells (madeCells #[.int .u8 0] k) 5)) := by
  obtain ⟨i, hi, h1, h2, h3⟩ : ∃ i, Tryd.prog.info? 5 = some i ∧ i.zero = some (.int .u8 0) ∧ i.size = 1 ∧ i.bytes = 1 := ⟨_, rfl, by kernel_rfl, by kernel_rfl, by kernel_rfl⟩
  subst hx
  have := run_make w 53 5 i (.int .u8 0) Tryd.underlying53 hi h1 .i64 .i64 (k : Int) (k : Int) (by omega) (by omega) (by rw [h3]; omega) (by omega)
  rw [h2] at this
  simpa [Value.cells] using this
theorem conv_bytes (k : Nat) (w : World) : (convert 53 9 (.slice (some ⟨w.heap.size, 0, none⟩) k k)).run Tryd.prog (w.alloc (.cells (madeCells #[.int .u8 0] k) 5)) = .ok (.string (ms (List.replicate k 0))) (w.alloc (.cells (madeCells #[.int .u8 0] k) 5)) := by
  have := run_convert_bytes_back (P := Tryd.prog) (w.alloc (.cells (madeCells #[.int .u8 0] k) 5)) 53 9 5 ⟨w.heap.size, 0, none⟩ k (List.replicate k 0) Tryd.underlying53 Tryd.underlying5 Tryd.underlying9 (fun j hj => by
    rw [add_none, Nat.zero_add, cell_of_row _ _ _ _ _ _ (heap_alloc_new w _), ← Array.getElem?_toList, toList_madeCells_one, List.getElem?_replicate, if_pos (by simpa using hj)]
    simp)
  rw [List.length_replicate] at this
  exact this
set_option maxRecDepth 100000 in
theorem zero_bytes (k : Nat) (hk : k ≤ 1000000) : ∃ (M : Array Value) (Z : ByteArray), Z.size = k ∧
    (∀ (x : Int) (w : World), x = k → (Instr.makeSlice 53 (.int .i64 x) (.int .i64 x)).run Tryd.prog w = .ok (.slice (some ⟨w.heap.size, 0, none⟩) k k) (w.alloc (.cells M 5))) ∧
    ∀ w : World, (convert 53 9 (.slice (some ⟨w.heap.size, 0, none⟩) k k)).run Tryd.prog (w.alloc (.cells M 5)) = .ok (.string Z) (w.alloc (.cells M 5)) :=
  ⟨_, _, (ms_size _).trans List.length_replicate, fun x w hx => mk_bytes k hk x hx w, fun w => conv_bytes k w⟩
theorem lineB_small {k : Int} {c r : List UInt8} (h0 : 0 ≤ k) (h1 : k ≤ 59) (hc : c.length ≤ 20) (hr : r.length ≤ 20) : (lineB k c r).length ≤ 100 := by
  have hk := itoa_len h0 (by omega)
  have hs := sealB_length (Lib.itoa k ++ 32 :: (c ++ 64 :: r))
  unfold lineB
  simp at *
  omega

set_option maxRecDepth 100000 in
set_option maxHeartbeats 4000000 in
theorem drawEncodeRecord_any (ca : Option Addr) (cl cc : Nat) (w : World) (hc : CodeOk w ca cl) (hs : cl ≤ 65536) :
    Calls Tryd.prog 49 #[.slice ca cl cc] w fun e w' => ∃ (k : Int) (q r : ByteArray), -1 ≤ k ∧ k ≤ 60 ∧ q.size ≤ 20 ∧ r.size ≤ 20 ∧ e = .returned (.tuple #[.int .i64 k, .agg #[.string q, .string r]]) ∧ Below w.heap.size w w' := by
  have S0 := ((Sp.start w).alloc_box #[.string ⟨#[]⟩, .string ⟨#[]⟩] 27).alloc_cur ca cl cc
  simp only [World.size_alloc] at S0
  obtain ⟨hi, hk⟩ := (S0.alloc (.cells #[.int .i64 0, .int .i64 1, .int .i64 12, .int .i64 59, .int .i64 60, .int .i64 (-1)] 3)).cur (A' := 2) (i := 0) rfl hc hs
  replace hk := Lib.hid hk
  replace hi := Lib.hid hi
  clear S0
  go_enter Tryd.func49, Tryd.ntmps49
  go_wp2_with fail
  refine (cur_among (-1) 60 (w.heap.size + 2) 0 6 6 0 (w.heap.size + 1) ca cl cc _ hi.out (by omega) (by decide) (by decide) ?_ (by omega)).mono ?_
  · refine ints_new (by simp) fun j hj => ?_
    match j, hj with
    | 0, _ => exact ⟨_, rfl, by decide, by decide⟩
    | 1, _ => exact ⟨_, rfl, by decide, by decide⟩
    | 2, _ => exact ⟨_, rfl, by decide, by decide⟩
    | 3, _ => exact ⟨_, rfl, by decide, by decide⟩
    | 4, _ => exact ⟨_, rfl, by decide, by decide⟩
    | 5, _ => exact ⟨_, rfl, by decide, by decide⟩
  rintro e w1 ⟨_, ⟨k, hk0, hk1, rfl⟩, rfl, hi1, hc1⟩
  have S1 := hk.out w1 hi1 hc1
  obtain ⟨hi2, hk2⟩ := S1.cur (A' := 10) (i := 0) rfl hc hs
  replace hk2 := Lib.hid hk2
  replace hi2 := Lib.hid hi2
  clear hk hi hi1 hc1 S1
  go_wp2_with fail
  refine (cur_logRecord 2 (w.heap.size + 1) ca cl cc _ hi2.out (by omega)).mono ?_
  rintro e w3 ⟨_, ⟨q, r, hq, hr, rfl⟩, rfl, hi3, hc3⟩
  have S3 := hk2.out w3 hi3 hc3
  clear hk2 hi2 hi3 hc3
  have e0 := S3.cell (i := 1) rfl (o := 0) rfl
  have e1 := S3.cell (i := 1) rfl (o := 1) rfl
  have f0 := S3.frozen (i := 1) rfl 0
  have f1 := S3.frozen (i := 1) rfl 1
  have hB := ((S3.store (i := 1) rfl 0 (.string q)).store (i := 1) rfl 1 (.string r)).below
  replace S3 := Lib.hid S3
  go_wp2_with fail
  exact bodyPost_ret (v := .tuple #[.int .i64 k, .agg #[.string q, .string r]]) (by simp [results, Tryd.results49, go_sem, e0, e1]) rfl ⟨k, q, r, hk0, hk1, hq, hr, rfl, hB⟩

set_option maxRecDepth 100000 in
set_option maxHeartbeats 4000000 in
theorem drawRecoverLog_any (ca : Option Addr) (cl cc : Nat) (w : World) (hc : CodeOk w ca cl) (hs : cl ≤ 65536) :
    Calls Tryd.prog 50 #[.slice ca cl cc] w fun e w' => ∃ s : ByteArray, s.size ≤ 40000 ∧ e = .returned (.string s) ∧ Below w.heap.size w w' := by
  obtain ⟨M0, Z0, hz0, hmk0, hcv0⟩ := zero_bytes 30000 (by omega)
  obtain ⟨M1, Z1, hz1, hmk1, hcv1⟩ := zero_bytes 30001 (by omega)
  replace hmk0 := fun w => hmk0 30000 w rfl
  replace hmk1 := fun w => hmk1 30001 w rfl
  replace hz0 := Lib.hid hz0
  replace hz1 := Lib.hid hz1
  go_enter Tryd.func50, Tryd.ntmps50
  go_wp2_with fail
  refine (cur_log 0 w.heap.size ca cl cc _ (cur_new hc hs) (by omega)).mono ?_
  rintro e w1 ⟨_, ⟨⟨d, p, c, hdp, _, _, rfl⟩, _⟩, rfl, hi1, hc1⟩
  have hb1 : Below w.heap.size w w1 := (bal (bb w) _).trans (hc1.below (by simp) (by simp))
  clear hc1
  obtain ⟨Z, hZ⟩ : ∃ Z, ms (bl d ++ bl p) = Z := ⟨_, rfl⟩
  have sZ : Z.size ≤ 3000 := by rw [← hZ, ms_size, List.length_append, bl_length, bl_length]; omega
  have a1 := fun w' => run_add (P := Tryd.prog) w' d p (by omega)
  rw [hZ] at a1
  clear hZ
  go_wp2_with fail
  refine (cur_pick_at (lo := 0) (hi := 3) (hi1.grow (by repeat (first | exact bb _ | assumption | refine bal ?_ _ | refine bdr ?_ | refine bdn ?_ _ | refine bst ?_ (by simp <;> omega) _ | refine btr ?_ (by assumption)))) (by omega) (by omega) (by omega) (by omega) (by omega)).mono ?_
  rintro e w2 ⟨_, ⟨x, hx0, hx1, rfl⟩, rfl, hi2, hc2⟩
  have hb2 : Below w.heap.size w w2 := (bal hb1 _).trans (hc2.below (by have := hb1.size; simp; omega) (by simp))
  clear hc2 hi1 hb1
  obtain rfl | rfl | rfl | rfl : x = 0 ∨ x = 1 ∨ x = 2 ∨ x = 3 := by omega
  · clear hx0 hx1
    go_wp2_with fail
    refine (cur_spoilt Z ⟨#[35, 64, 10, 48, 49]⟩ _ _ ca cl cc _ hi2 (by omega) (by omega) (by decide) (by decide)).mono ?_
    rintro e w3 ⟨_, ⟨Y, hY, rfl⟩, rfl, hi3, hc3⟩
    have sY : Hid (Y.size ≤ 4000) := by unfold SizeLe at hY; unfold Hid; omega
    have hb3 : Below w.heap.size w w3 := hb2.trans (hc3.below hb2.size (by simp))
    replace hi3 : CurIs 120 _ ca cl cc w3 := hi3.mono (by omega)
    clear hc3 hi2 hb2 hY sZ
    go_wp2_with fail
    refine (cur_one 40 _ _ ca cl cc _ hi3 (by omega) (by omega)).mono ?_
    rintro e w7 ⟨_, ⟨t, rfl⟩, rfl, hi7, hc7⟩
    have hb7 : Below w.heap.size w w7 := hb3.trans (hc7.below hb3.size (by simp))
    clear hc7 hi3 hb3
    cases t
    · go_wp2_with fail
      go_ret
      exact ⟨_, Nat.le_trans sY.out (by decide), rfl, hb7⟩
    · go_wp2_with fail
      refine (cur_pick_at (lo := 0) (hi := 1) hi7 (by omega) (by omega) (by omega) (by omega) (by omega)).mono ?_
      rintro e w8 ⟨_, ⟨x, hx0, hx1, rfl⟩, rfl, hi8, hc8⟩
      have hb8 : Below w.heap.size w w8 := hb7.trans (hc8.below hb7.size (by simp))
      clear hc8 hi7 hb7 hi8
      obtain rfl | rfl : x = 0 ∨ x = 1 := by omega
      · go_wp2_with fail
        go_ret
        exact ⟨_, by rw [hz0.out]; decide, rfl, bal hb8 _⟩
      · go_wp2_with fail
        go_ret
        exact ⟨_, by rw [hz1.out]; decide, rfl, bal hb8 _⟩
  · clear hx0 hx1
    go_wp2_with fail
    refine (cur_pick_at (lo := 0) (hi := (Z.size : Int)) hi2 (by omega) (by omega) (by omega) (by omega) (by omega)).mono ?_
    rintro e w3 ⟨_, ⟨x, hx0, hx1, rfl⟩, rfl, hi3, hc3⟩
    obtain ⟨j, rfl⟩ := Int.eq_ofNat_of_zero_le hx0
    obtain ⟨Y, hY⟩ : ∃ Y, Z.extract 0 j = Y := ⟨_, rfl⟩
    have sY : Hid (Y.size ≤ 4000) := by unfold Hid; rw [← hY, ext_size _ _ _ (by omega)]; omega
    have hb3 : Below w.heap.size w w3 := hb2.trans (hc3.below hb2.size (by simp))
    replace hi3 : CurIs 120 _ ca cl cc w3 := hi3.mono (by omega)
    clear hc3 hi2 hb2 hx0
    go_wp2_with fail
    refine (cur_one 40 _ _ ca cl cc _ hi3 (by omega) (by omega)).mono ?_
    rintro e w7 ⟨_, ⟨t, rfl⟩, rfl, hi7, hc7⟩
    have hb7 : Below w.heap.size w w7 := hb3.trans (hc7.below hb3.size (by simp))
    clear hc7 hi3 hb3
    cases t
    · go_wp2_with fail
      go_ret
      exact ⟨_, Nat.le_trans sY.out (by decide), rfl, hb7⟩
    · go_wp2_with fail
      refine (cur_pick_at (lo := 0) (hi := 1) hi7 (by omega) (by omega) (by omega) (by omega) (by omega)).mono ?_
      rintro e w8 ⟨_, ⟨x, hx0, hx1, rfl⟩, rfl, hi8, hc8⟩
      have hb8 : Below w.heap.size w w8 := hb7.trans (hc8.below hb7.size (by simp))
      clear hc8 hi7 hb7 hi8
      obtain rfl | rfl : x = 0 ∨ x = 1 := by omega
      · go_wp2_with fail
        go_ret
        exact ⟨_, by rw [hz0.out]; decide, rfl, bal hb8 _⟩
      · go_wp2_with fail
        go_ret
        exact ⟨_, by rw [hz1.out]; decide, rfl, bal hb8 _⟩
  · clear hx0 hx1
    go_wp2_with fail
    refine (cur_pick_at (lo := 0) (hi := 3) hi2 (by omega) (by omega) (by omega) (by omega) (by omega)).mono ?_
    rintro e w3 ⟨_, ⟨x, hx0, hx1, rfl⟩, rfl, hi3, hc3⟩
    have hb3 : Below w.heap.size w w3 := hb2.trans (hc3.below hb2.size (by simp))
    clear hc3 hi2 hb2
    go_wp2_with fail
    refine (cur_logRecord _ _ ca cl cc _ hi3 (by omega)).mono ?_
    rintro e w4 ⟨_, ⟨q, r, hq, hr, rfl⟩, rfl, hi4, hc4⟩
    have hb4 : Below w.heap.size w w4 := hb3.trans (hc4.below hb3.size (by simp))
    clear hc4 hi3 hb3
    go_wp2_with fail
    refine (l33Line_any x q r _ hx0 (by omega) (by omega) (by omega)).mono ?_
    rintro e w3 ⟨rfl, hb5⟩
    have hsm := lineB_small (k := x) (c := bl q) (r := bl r) hx0 (by omega) (by rw [bl_length]; omega) (by rw [bl_length]; omega)
    have a2 := fun w' => run_add (P := Tryd.prog) w' Z (ms (lineB x (bl q) (bl r))) (by rw [ms_size]; omega)
    obtain ⟨Y, hY⟩ : ∃ Y, ms (bl Z ++ bl (ms (lineB x (bl q) (bl r)))) = Y := ⟨_, rfl⟩
    have sY : Hid (Y.size ≤ 4000) := by unfold Hid; rw [← hY, ms_size, List.length_append, bl_ms, bl_length]; omega
    rw [hY] at a2
    have hb3 : Below w.heap.size w w3 := btr hb4 hb5
    have hi3 : CurIs 120 _ ca cl cc w3 := (hi4.grow hb5).mono (by omega)
    clear hY hsm hb4 hb5 hi4 hx0 hx1 hq hr
    go_wp2_with fail
    refine (cur_one 40 _ _ ca cl cc _ hi3 (by omega) (by omega)).mono ?_
    rintro e w7 ⟨_, ⟨t, rfl⟩, rfl, hi7, hc7⟩
    have hb7 : Below w.heap.size w w7 := hb3.trans (hc7.below hb3.size (by simp))
    clear hc7 hi3 hb3
    cases t
    · go_wp2_with fail
      go_ret
      exact ⟨_, Nat.le_trans sY.out (by decide), rfl, hb7⟩
    · go_wp2_with fail
      refine (cur_pick_at (lo := 0) (hi := 1) hi7 (by omega) (by omega) (by omega) (by omega) (by omega)).mono ?_
      rintro e w8 ⟨_, ⟨x, hx0, hx1, rfl⟩, rfl, hi8, hc8⟩
      have hb8 : Below w.heap.size w w8 := hb7.trans (hc8.below hb7.size (by simp))
      clear hc8 hi7 hb7 hi8
      obtain rfl | rfl : x = 0 ∨ x = 1 := by omega
      · go_wp2_with fail
        go_ret
        exact ⟨_, by rw [hz0.out]; decide, rfl, bal hb8 _⟩
      · go_wp2_with fail
        go_ret
        exact ⟨_, by rw [hz1.out]; decide, rfl, bal hb8 _⟩
  · clear hx0 hx1
    have sY : Hid (Z.size ≤ 4000) := by unfold Hid; omega
    have hb3 := hb2
    have hi3 : CurIs 120 _ ca cl cc w2 := hi2.mono (by omega)
    clear hb2 hi2
    go_wp2_with fail
    refine (cur_one 40 _ _ ca cl cc _ hi3 (by omega) (by omega)).mono ?_
    rintro e w7 ⟨_, ⟨t, rfl⟩, rfl, hi7, hc7⟩
    have hb7 : Below w.heap.size w w7 := hb3.trans (hc7.below hb3.size (by simp))
    clear hc7 hi3 hb3
    cases t
    · go_wp2_with fail
      go_ret
      exact ⟨_, Nat.le_trans sY.out (by decide), rfl, hb7⟩
    · go_wp2_with fail
      refine (cur_pick_at (lo := 0) (hi := 1) hi7 (by omega) (by omega) (by omega) (by omega) (by omega)).mono ?_
      rintro e w8 ⟨_, ⟨x, hx0, hx1, rfl⟩, rfl, hi8, hc8⟩
      have hb8 : Below w.heap.size w w8 := hb7.trans (hc8.below hb7.size (by simp))
      clear hc8 hi7 hb7 hi8
      obtain rfl | rfl : x = 0 ∨ x = 1 := by omega
      · go_wp2_with fail
        go_ret
        exact ⟨_, by rw [hz0.out]; decide, rfl, bal hb8 _⟩
      · go_wp2_with fail
        go_ret
        exact ⟨_, by rw [hz1.out]; decide, rfl, bal hb8 _⟩
end Go.Proofs.YtfcekfomhpmgpaaDoor
