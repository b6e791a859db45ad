/- Contracts: rows of records and of strings in the law. -/
import Derived.Test.YtcapiijpfoapkaaDoorBookB
import Derived.Test.YtcapiijpfoapkaaDoorFlatC
import Derived.Test.YtcapiijpfoapkaaDoorMemB
import Derived.Test.YtcapiijpfoapkaaDoorStrA
import Derived.Test.YtcapiijpfoapkaaDoorSepA
import Derived.Test.YtcapiijpfoapkaaDoorMarkT
import Derived.Test.YtcapiijpfoapkaaDoorHTail
import Derived.Deep.RegionHeld3
import Derived.Lib.Hide
namespace Go.Proofs.YtcapiijpfoapkaaDoor
open Go.RowKit

/-- A record in memory: four cells. -/
def rcEnc (r : Rec) : List Value := [.string (ms r.name), .int .i64 r.sys, .int .i64 r.size, .int .i64 r.extra]
def rcOk (r : Rec) : Prop := r.name.length ≤ 9223372036854775807 ∧ I64 r.sys ∧ I64 r.size ∧ I64 r.extra
abbrev rcTy : Ty Rec := Ty.flat 4 rcEnc rcOk (fun _ => rfl)
/-- The four cells of each record. -/
theorem row_rc {wr : Bool} {w : World} {v : Value} {xs : List Rec} {F : List Nat} (h : rcTy.row wr w v xs F) :
    ∃ a cap, v = .slice a xs.length cap ∧ xs.length ≤ cap ∧ cap ≤ 9223372036854775807 ∧ (∀ x ∈ xs, rcOk x) ∧
      ((xs = [] ∧ F = []) ∨ (xs ≠ [] ∧ ∃ b off, a = some ⟨b, off, none⟩ ∧ F = [b] ∧ ∀ j (hj : j < xs.length), cellIs wr w b (off + j * 4) (.string (ms xs[j].name)) ∧ cellIs wr w b (off + j * 4 + 1) (.int .i64 xs[j].sys) ∧ cellIs wr w b (off + j * 4 + 2) (.int .i64 xs[j].size) ∧ cellIs wr w b (off + j * 4 + 3) (.int .i64 xs[j].extra))) := by
  obtain ⟨a, cap, rfl, h1, h2, h3, h4⟩ := row_flat h
  refine ⟨a, cap, rfl, h1, h2, h3, h4.imp id ?_⟩
  rintro ⟨_, hne, b, off, rfl, rfl, hc⟩
  exact ⟨hne, b, off, rfl, rfl, fun j hj => ⟨hc j hj 0 _ rfl, by have := hc j hj 1 _ rfl; rwa [← Nat.add_assoc] at this, by have := hc j hj 2 _ rfl; rwa [← Nat.add_assoc] at this, by have := hc j hj 3 _ rfl; rwa [← Nat.add_assoc] at this⟩⟩
/-- A record as a value. -/
abbrev rcV (r : Rec) : Value := .agg #[.string (ms r.name), .int .i64 r.sys, .int .i64 r.size, .int .i64 r.extra]

/-- The size of a book, as the law reckons it. -/
def nameTo (xs : List Rec) (k : Nat) : Nat := ((xs.take k).map (fun r => r.name.length)).sum
def bulkR (xs : List Rec) : Nat := xs.length + nameTo xs xs.length
theorem nameTo_succ (xs : List Rec) (k : Nat) (hk : k < xs.length) : nameTo xs (k + 1) = nameTo xs k + xs[k].name.length := by
  unfold nameTo; rw [List.take_succ_eq_append_getElem hk, List.map_append, List.sum_append]; simp
theorem nameTo_le (xs : List Rec) (k : Nat) : nameTo xs k ≤ nameTo xs xs.length := by
  unfold nameTo
  rw [List.take_length]
  conv => rhs; rw [← List.take_append_drop k xs]
  rw [List.map_append, List.sum_append]; omega
theorem name_le {xs : List Rec} {k : Nat} (hk : k < xs.length) : xs[k].name.length ≤ bulkR xs := by
  have h1 := nameTo_succ xs k hk
  have h2 := nameTo_le xs (k + 1)
  unfold bulkR; omega
def szR (n : Int) (b : Nat) : Int := if n < (b : Int) then -1 else n - b
theorem szR_no {n : Int} {b : Nat} (h : n < (b : Int)) : szR n b = -1 := if_pos h
theorem szR_yes {n : Int} {b : Nat} (h : (b : Int) ≤ n) : szR n b = n - b := if_neg (by omega)

set_option maxHeartbeats 400000 in
theorem szRecord_any (s : ByteArray) (x y z : Int) (n : Int) (w : World) (h0 : 0 ≤ n) (h1 : n ≤ 1048576) (hs : s.size ≤ 9223372036854775807) :
    Calls Tryd.prog 14 #[.agg #[.string s, .int .i64 x, .int .i64 y, .int .i64 z], .int .i64 n] w fun e w' => e = .returned (.int .i64 (szR n s.size)) ∧ Below w.heap.size w w' := by
  by_cases hq : n < (s.size : Int)
  · have he := Lib.hid (szR_no hq)
    go_enter Tryd.func14, Tryd.ntmps14
    go_wp2
    go_ret
    exact ⟨ret_int he.out.symm, bal (bb _) _⟩
  · have he := Lib.hid (szR_yes (n := n) (b := s.size) (by omega))
    have hp : 0 ≤ n - s.size := by omega
    go_enter Tryd.func14, Tryd.ntmps14
    go_wp2
    go_ret
    exact ⟨ret_int he.out.symm, bal (bb _) _⟩

set_option maxHeartbeats 1000000 in
theorem szRecordS_any (v : Value) (xs : List Rec) (F : List Nat) (n : Int) (w : World) (hx : rcTy.row false w v xs F) (h0 : 0 ≤ n) (h1 : n ≤ 1048576) :
    Calls Tryd.prog 5 #[v, .int .i64 n] w fun e w' => e = .returned (.int .i64 (szR n (bulkR xs))) ∧ Below w.heap.size w w' := by
  obtain ⟨a, c, rfl, hx1, hx2, hg, hx3⟩ := row_rc hx
  by_cases hb : n < (xs.length : Int)
  · have hd : Hid (szR n (bulkR xs) = -1) := by unfold Hid bulkR; exact szR_no (by omega)
    rw [hd.out]
    go_enter Tryd.func5, Tryd.ntmps5
    go_wp2_with fail
    go_ret
    exact ⟨rfl, bb _⟩
  have hb' : 0 ≤ n - xs.length := by omega
  have hn1 : (xs.length : Int) ≤ 1048576 := by omega
  go_enter Tryd.func5, Tryd.ntmps5
  go_wp2_with fail
  go_loopw [1, 5] (fun m i wr => ∃ (k : Nat) (z : Int), k ≤ xs.length ∧ i = .int .i64 k ∧ m = .int .i64 z ∧ Hid (z = n - xs.length - nameTo xs k) ∧ 0 ≤ z ∧ z ≤ 1048576 ∧ Hid (Below w.heap.size w wr)) (fun _ i _ => xs.length - (intOf i).toNat)
  case atStart => exact ⟨0, n - xs.length, Nat.zero_le _, rfl, rfl, by simp [Hid, nameTo], hb', by omega, bb _⟩
  case round =>
    obtain ⟨k, z, hk, rfl, rfl, HZ, hz0, hz1, HB⟩ := hrel
    by_cases hlt : k < xs.length
    · rcases hx3 with ⟨rfl, rfl⟩ | ⟨hxn, b, off, rfl, rfl, hxc⟩
      · exact absurd hlt (by simp)
      obtain ⟨q0, q1, q2, q3⟩ := hxc k hlt
      have hk2 := HB.out.block b q0.lt
      have k0 := (q0.keep hk2).1
      have k1 := (q1.keep hk2).1
      have k2 := (q2.keep hk2).1
      have k3 := (q3.keep hk2).1
      have HS := Lib.hid (nameTo_succ xs k hlt)
      have HL := Lib.hid (nameTo_le xs (k + 1))
      have hok := (hg _ (List.getElem_mem hlt)).1
      have hsz : Hid ((ms xs[k].name).size = xs[k].name.length) := by unfold Hid; exact ms_size _
      clear q0 q1 q2 q3 hk2 hxc hg
      by_cases hs : z < (xs[k].name.length : Int)
      · have HF : Hid (szR n (bulkR xs) = -1) := by
          unfold Hid bulkR
          have h1 := HS.out; have h2 := HL.out; have h3 := HZ.out
          exact szR_no (by omega)
        have hsz2 := Lib.hid (szR_no (n := z) (b := (ms xs[k].name).size) (by rw [hsz.out]; exact hs))
        go_wp2_with fail
        refine (szRecord_any _ _ _ _ _ _ hz0 hz1 (by rw [hsz.out]; exact hok)).mono ?_
        rw [hsz2.out]
        rintro e w1 ⟨rfl, hb1⟩
        have HB2 := btr HB.out hb1
        go_wp2_with fail
        go_ret
        exact ⟨ret_int HF.out.symm, HB2⟩
      · have hs' : 0 ≤ z - xs[k].name.length := by omega
        have hsz2 : Hid (szR z (ms xs[k].name).size = z - xs[k].name.length) := by unfold Hid; rw [hsz.out]; exact szR_yes (by omega)
        have HZ2 : Hid (z - xs[k].name.length = n - xs.length - nameTo xs (k + 1)) := by unfold Hid; have h1 := HS.out; have h3 := HZ.out; omega
        go_wp2_with fail
        refine (szRecord_any _ _ _ _ _ _ hz0 hz1 (by rw [hsz.out]; exact hok)).mono ?_
        rw [hsz2.out]
        rintro e w1 ⟨rfl, hb1⟩
        have HB2 := Lib.hid (btr HB.out hb1)
        go_wp2_with fail
        go_roundw
        case rel => exact ⟨k + 1, z - xs[k].name.length, by omega, by go_num, rfl, HZ2, hs', by omega, HB2⟩
        case measure => simp [intOf]; omega
    · obtain rfl : k = xs.length := by omega
      have HF : Hid (szR n (bulkR xs) = z) := by
        unfold Hid bulkR
        have h3 := HZ.out
        rw [szR_yes (by omega)]; omega
      go_wp2_with fail
      go_ret
      exact ⟨ret_int HF.out.symm, HB.out⟩

set_option maxHeartbeats 400000 in
theorem toRecord_any (s : ByteArray) (x y z : Int) (w : World) :
    Calls Tryd.prog 17 #[.agg #[.string s, .int .i64 x, .int .i64 y, .int .i64 z]] w fun e w' => e = .returned (.agg #[.string s, .int .i64 x, .int .i64 y, .int .i64 z]) ∧ Below w.heap.size w w' := by
  go_enter Tryd.func17, Tryd.ntmps17
  go_wp2
  exact bodyPost_ret (v := .agg #[.string s, .int .i64 x, .int .i64 y, .int .i64 z]) (by simp [results, Tryd.results17, go_sem]) rfl ⟨rfl, (by repeat (first | exact bb _ | assumption | refine bal ?_ _ | refine bdr ?_ | refine bdn ?_ _ | refine bst ?_ (by simp <;> omega) _ | refine btr ?_ (by assumption)))⟩

set_option maxHeartbeats 400000 in
theorem eqRecord_same (s : ByteArray) (x y z : Int) (w : World) :
    Calls Tryd.prog 21 #[.agg #[.string s, .int .i64 x, .int .i64 y, .int .i64 z], .agg #[.string s, .int .i64 x, .int .i64 y, .int .i64 z]] w fun e w' => e = .returned (.bool true) ∧ Below w.heap.size w w' := by
  go_enter Tryd.func21, Tryd.ntmps21
  go_wp2
  go_ret
  exact ⟨rfl, (by repeat (first | exact bb _ | assumption | refine bal ?_ _ | refine bdr ?_ | refine bdn ?_ _ | refine bst ?_ (by simp <;> omega) _ | refine btr ?_ (by assumption)))⟩

set_option maxHeartbeats 1000000 in
theorem eqRecordS_same (v u : Value) (xs : List Rec) (F G : List Nat) (w : World) (hx : rcTy.row false w v xs F) (hy : rcTy.row false w u xs G) :
    Calls Tryd.prog 9 #[v, u] w fun e w' => e = .returned (.bool true) ∧ Below w.heap.size w w' := by
  obtain ⟨a, c, rfl, hx1, hx2, _, hx3⟩ := row_rc hx
  obtain ⟨a', c', rfl, hy1, hy2, _, hy3⟩ := row_rc hy
  go_enter Tryd.func9, Tryd.ntmps9
  go_wp2_with fail
  go_loopw [5] (fun i wr => ∃ k : Nat, k ≤ xs.length ∧ i = .int .i64 k ∧ Below w.heap.size w wr) (fun i _ => xs.length - (intOf i).toNat)
  case atStart => exact ⟨0, Nat.zero_le _, rfl, bb _⟩
  case round =>
    obtain ⟨k, hk, rfl, hB⟩ := hrel
    by_cases hlt : k < xs.length
    · rcases hx3 with ⟨rfl, rfl⟩ | ⟨hxn, b, off, rfl, rfl, hxc⟩
      · exact absurd hlt (by simp)
      rcases hy3 with ⟨rfl, rfl⟩ | ⟨hyn, b', off', rfl, rfl, hyc⟩
      · exact absurd hlt (by simp)
      obtain ⟨p0, p1, p2, p3⟩ := hxc k hlt
      obtain ⟨q0, q1, q2, q3⟩ := hyc k hlt
      have hp := hB.block b p0.lt
      have hq := hB.block b' q0.lt
      have k0 := cell_regrown (p0.keep hp).1
      have k1 := cell_regrown (p1.keep hp).1
      have k2 := cell_regrown (p2.keep hp).1
      have k3 := cell_regrown (p3.keep hp).1
      have m0 := cell_regrown (q0.keep hq).1
      have m1 := cell_regrown (q1.keep hq).1
      have m2 := cell_regrown (q2.keep hq).1
      have m3 := cell_regrown (q3.keep hq).1
      clear hxc hyc p0 p1 p2 p3 q0 q1 q2 q3 hp hq
      go_wp2_with fail
      refine wp_region_quiet_below (by kernel_rfl) (by kernel_rfl) ?_
      repeat (any_goals (first | go_big_quiet_step ((go_at_call 21; exact Calls.regrown_of (eqRecord_same _ _ _ _ _)))))
      refine wpQuiet_nil ?_
      rintro w1 ⟨p, rfl⟩
      go_wp2_with fail
      go_roundw
      case rel => exact ⟨k + 1, by omega, by go_num, hB.trans ((below_regrown _ _ _).mono hB.size)⟩
      case measure => simp [intOf]; omega
    · go_wp2_with fail
      go_ret
      exact ⟨rfl, hB⟩

theorem infoRc : (Tryd.prog.info? 39).map (fun i => (i.zero, i.size, i.bytes)) = some (some (.agg #[.string ByteArray.empty, .int .i64 0, .int .i64 0, .int .i64 0]), 4, 40) := by kernel_rfl
def rcZ : Rec := ⟨[], 0, 0, 0⟩

set_option maxHeartbeats 1000000 in
theorem toRecordS_any (v : Value) (xs : List Rec) (F : List Nat) (w : World) (hx : rcTy.row false w v xs F) (h1 : xs.length ≤ 100000000) :
    Calls Tryd.prog 7 #[v] w (OwnPost rcTy w xs) := by
  obtain ⟨i0, hi, hz0, hz1, hz2⟩ := info_parts infoRc
  obtain ⟨a, c, rfl, hx1, hx2, hxg, hx3⟩ := row_rc hx
  go_enter Tryd.func7, Tryd.ntmps7
  go_wp2_with (at_make; refine wpList_make_full _ rfl _ _ 24 rfl w.heap.size 39 i0 (.agg #[.string ByteArray.empty, .int .i64 0, .int .i64 0, .int .i64 0]) 4 Tryd.underlying24 hi hz0 hz1 .i64 .i64 _ _ xs.length rfl rfl rfl rfl ?m1 ?m2 ?m3 ?_)
  case m1 => rw [hz2]; omega
  case m2 => unfold maxLen; omega
  case m3 => exact Nat.le_refl _
  intro w1 hown hgrow
  have hst : Hid (FlatAt rcEnc 4 w.heap.size xs.length (filled xs rcZ 0) w1 ∧ Below w.heap.size w w1) := by
    rw [filled_zero]
    exact ⟨FlatAt.made (z := rcZ) (zc := #[.string ByteArray.empty, .int .i64 0, .int .i64 0, .int .i64 0]) rfl rfl hown, (bb w).grown hgrow (Nat.le_refl _) (fun k hk => by cases hk)⟩
  clear hown hgrow
  go_wp2_with fail
  go_loopw [4] (fun i wr => ∃ k : Nat, k ≤ xs.length ∧ i = .int .i64 k ∧ Hid (FlatAt rcEnc 4 w.heap.size xs.length (filled xs rcZ k) wr ∧ Below w.heap.size w wr)) (fun i _ => xs.length - (intOf i).toNat)
  case atStart => exact ⟨0, Nat.zero_le _, rfl, hst⟩
  case round =>
    obtain ⟨k, hk, rfl, HR⟩ := hrel
    by_cases hlt : k < xs.length
    · rcases hx3 with ⟨rfl, rfl⟩ | ⟨hxn, b, off, rfl, rfl, hxc⟩
      · exact absurd hlt (by simp)
      obtain ⟨p0, p1, p2, p3⟩ := hxc k hlt
      have hp := HR.out.2.block b p0.lt
      have k0 := (p0.keep hp).1
      have k1 := (p1.keep hp).1
      have k2 := (p2.keep hp).1
      have k3 := (p3.keep hp).1
      have hfs := Lib.hid (filled_succ xs rcZ k hlt)
      clear hxc hst p0 p1 p2 p3 hp
      generalize xs[k] = x at k0 k1 k2 k3 hfs
      obtain ⟨x1, x2, x3, x4⟩ := x
      go_wp2_with fail
      refine (toRecord_any _ _ _ _ _).mono ?_
      rintro e w2 ⟨rfl, hb2⟩
      have H2 := HR.out.1.grow hb2
      have z0 : (rcEnc (filled xs rcZ k k))[0]? = some (.string ByteArray.empty) := by simp only [filled, Nat.lt_irrefl, if_false]; rfl
      have z1 : (rcEnc (filled xs rcZ k k))[1]? = some (.int .i64 0) := by simp only [filled, Nat.lt_irrefl, if_false]; rfl
      have z2 : (rcEnc (filled xs rcZ k k))[2]? = some (.int .i64 0) := by simp only [filled, Nat.lt_irrefl, if_false]; rfl
      have z3 : (rcEnc (filled xs rcZ k k))[3]? = some (.int .i64 0) := by simp only [filled, Nat.lt_irrefl, if_false]; rfl
      have y0 := H2.cell hlt z0
      have y1 := H2.cell hlt z1
      have y2 := H2.cell hlt z2
      have y3 := H2.cell hlt z3
      have q0 := H2.frozen hlt z0
      have q1 := H2.frozen hlt z1
      have q2 := H2.frozen hlt z2
      have q3 := H2.frozen hlt z3
      rw [Nat.add_zero] at y0 q0
      have HN := H2.set4 (fun _ => rfl) (k := k) (x := ⟨x1, x2, x3, x4⟩) (u0 := .string (ms x1)) (u1 := .int .i64 x2) (u2 := .int .i64 x3) (u3 := .int .i64 x4) rfl
      rw [← hfs.out] at HN
      have HN2 := Lib.hid (And.intro HN (bst (bst (bst (bst (btr HR.out.2 hb2) (show w.heap.size ≤ (⟨w.heap.size, k * 4, none⟩ : Addr).block by simp) (.string (ms x1))) (show w.heap.size ≤ (⟨w.heap.size, k * 4 + 1, none⟩ : Addr).block by simp) (.int .i64 x2)) (show w.heap.size ≤ (⟨w.heap.size, k * 4 + 2, none⟩ : Addr).block by simp) (.int .i64 x3)) (show w.heap.size ≤ (⟨w.heap.size, k * 4 + 3, none⟩ : Addr).block by simp) (.int .i64 x4)))
      clear HR H2 HN z0 z1 z2 z3 hb2 k0 k1 k2 k3
      go_wp2_with fail
      go_roundw
      case rel => exact ⟨k + 1, by omega, by go_num, HN2⟩
      case measure => simp [intOf]; omega
    · obtain rfl : k = xs.length := by omega
      go_wp2_with fail
      go_ret
      by_cases hne : xs = []
      · subst hne
        exact ⟨_, [], rfl, Ty.row_nil _ _ _ _ _ (by simp), by simp, by simp, HR.out.2⟩
      · exact ⟨_, [w.heap.size], rfl, HR.out.1.done.row hxg (Nat.le_refl _) (by omega) hne (by decide), by simp, by simp, HR.out.2⟩
end Go.Proofs.YtcapiijpfoapkaaDoor
