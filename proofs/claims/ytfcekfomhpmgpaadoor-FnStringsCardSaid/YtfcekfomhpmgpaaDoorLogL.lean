/- Contracts: CrashLog in the reference and in the program. -/
import Derived.Test.YtfcekfomhpmgpaaDoorLogI
import Derived.Test.YtfcekfomhpmgpaaDoorSepA
import Derived.Test.YtfcekfomhpmgpaaDoorHTail
import Derived.Lib.Hide
import Derived.Lib.ConvBytes
import Derived.Laws.IdiomStrings
namespace Go.Proofs.YtfcekfomhpmgpaaDoor
open Go.RowKit

section
variable (w : World) (e : TypeId) (s : ByteArray)
theorem bw_below : Below w.heap.size w (Lib.bytesWorld w e s) :=
  ⟨rfl, rfl, rfl, by rw [Lib.bytesWorld_size]; omega, fun k hk => Lib.bytesWorld_at_old w e s k hk⟩
theorem bw_cell {j : Nat} (hj : j < s.size) : (Lib.bytesWorld w e s).cell? ⟨w.heap.size, j, none⟩ = some (.int .u8 ((bl s)[j]'(by rw [bl_length]; exact hj)).toNat) := by
  rw [Lib.bytesWorld_cell w e s j hj]
  congr 3
  unfold bl
  rw [List.getD_eq_getElem?_getD, List.getElem?_eq_getElem (by simpa using hj), Option.getD_some]
theorem bw_frozen {j : Nat} (hj : j < s.size) : (Lib.bytesWorld w e s).frozen? ⟨w.heap.size, j, none⟩ = false := by
  have : j < (Lib.bytesCells w e s).size := by
    unfold Lib.bytesCells
    simp
    have : s.data.size = s.size := rfl
    omega
  simp [World.frozen?, Lib.bytesWorld_at_new]
  omega
end
theorem bw_back {P : Program} (w W : World) (src dst e : TypeId) (l : List UInt8) (cap : Nat) (hs : P.underlying src = some (.slice e)) (he : P.underlying e = some (.int .u8)) (hd : P.underlying dst = some .string)
    (hc : ∀ j (hj : j < l.length), W.cell? ⟨w.heap.size, j, none⟩ = some (.int .u8 (l[j].toNat : Int))) :
    (convert src dst (.slice (some ⟨w.heap.size, 0, none⟩) l.length cap)).run P W = .ok (.string (ms l)) W := by
  have := run_convert_bytes_back (P := P) W src dst e ⟨w.heap.size, 0, none⟩ cap l hs he hd (fun j hj => by
    rw [show (⟨w.heap.size, 0, none⟩ : Addr).add j = ⟨w.heap.size, j, none⟩ by unfold Addr.add; split <;> simp_all]
    exact hc j hj)
  exact this

/-- A byte turned over. -/
def turnB (b : UInt8) : UInt8 := UInt8.ofNat (255 - b.toNat)
theorem turnB_nat (b : UInt8) : ((turnB b).toNat : Int) = (255 - (b.toNat : Int)) % 256 := by
  have := b.toNat_lt
  unfold turnB
  rw [UInt8.toNat_ofNat']
  omega
/-- The last byte torn. -/
def tearB (t : Bool) (l : List UInt8) : List UInt8 := if t then l.modify (l.length - 1) turnB else l
theorem tearB_len (t : Bool) (l : List UInt8) : (tearB t l).length = l.length := by unfold tearB; split <;> simp
/-- What CrashLog gives. -/
def crashB (d p : List UInt8) (c keep : Int) (t : Bool) : List UInt8 × Bool := if validB d p c && inB keep 0 p.length then (d ++ tearB t (p.take keep.toNat), true) else ([], false)
theorem tearB_append {t : Bool} {d l : List UInt8} (h : l ≠ []) : tearB t (d ++ l) = d ++ tearB t l := by
  unfold tearB
  split
  · have h1 : 0 < l.length := List.length_pos_iff.2 h
    refine List.ext_getElem (by simp) fun j h2 h3 => ?_
    rw [List.getElem_modify]
    by_cases hj : j < d.length
    · rw [if_neg (by rw [List.length_append]; omega), List.getElem_append_left hj, List.getElem_append_left hj]
    · rw [List.getElem_append_right (by omega), List.getElem_append_right (by omega), List.getElem_modify]
      by_cases e : j = d.length + l.length - 1
      · rw [if_pos (by rw [List.length_append]; omega), if_pos (by omega)]
      · rw [if_neg (by rw [List.length_append]; omega), if_neg (by omega)]
  · rfl
theorem tear_cells {W : World} {b : Nat} {l : List UInt8} (hc : ∀ j (hj : j < l.length), W.cell? ⟨b, j, none⟩ = some (.int .u8 (l[j].toNat : Int))) (hl : 0 < l.length) :
    ∀ j (hj : j < (tearB true l).length), (W.setCell ⟨b, l.length - 1, none⟩ (.int .u8 ((255 - ((l[l.length - 1]'(Nat.sub_lt hl Nat.one_pos)).toNat : Int)) % 256))).cell? ⟨b, j, none⟩ = some (.int .u8 ((tearB true l)[j].toNat : Int)) := by
  intro j hj
  have hj' : j < l.length := by rw [tearB_len] at hj; exact hj
  have e0 : (tearB true l)[j] = if l.length - 1 = j then turnB l[j] else l[j] := by
    simp only [tearB, if_true]
    rw [List.getElem_modify]
  rw [e0]
  by_cases e : l.length - 1 = j
  · subst e
    rw [if_pos rfl, turnB_nat]
    exact World.cell?_setCell_same' _ _ _ (by rw [hc _ hj']; rfl)
  · rw [if_neg e, World.cell?_setCell_other W _ _ _ (by simp only [ne_eq, Addr.mk.injEq]; omega)]
    exact hc j hj'

set_option maxRecDepth 100000 in
set_option maxHeartbeats 2000000 in
theorem specCrashLog_any (d p : ByteArray) (c keep : Int) (t : Bool) (w : World) (hd : d.size ≤ 1000000000) (hp : p.size ≤ 1000000000) :
    Calls Tryd.prog 26 #[.agg #[.string d, .string p, .int .i64 c], .int .i64 keep, .bool t] w fun e w' => e = .returned (.tuple #[.string (ms (crashB (bl d) (bl p) c keep t).1), .bool (crashB (bl d) (bl p) c keep t).2]) ∧ Below w.heap.size w w' := by
  have S0 := (Sp.start w).alloc_box #[.string d, .string p, .int .i64 c] 31
  replace S0 := Lib.hid S0
  obtain ⟨v, hv⟩ : ∃ v, validB (bl d) (bl p) c = v := ⟨_, rfl⟩
  obtain ⟨q, hq⟩ : ∃ q, inB keep 0 p.size = q := ⟨_, rfl⟩
  have hR : Hid (crashB (bl d) (bl p) c keep t = if v && q then (bl d ++ tearB t ((bl p).take keep.toNat), true) else ([], false)) := by unfold Hid crashB; rw [hv, bl_length, hq]
  have hv' := Lib.hid hv
  have hq' := Lib.hid hq
  clear hv hq
  go_enter Tryd.func26, Tryd.ntmps26
  go_wp2_with fail
  refine (l33Log_any _ _ _ _ (by assumption) (by assumption)).mono ?_
  rw [hv'.out]
  rintro e w1 ⟨rfl, hb1⟩
  have S1 := S0.out.grow hb1
  clear S0 hb1
  have c0 := S1.cell (i := 0) rfl (o := 0) rfl
  have c1 := S1.cell (i := 0) rfl (o := 1) rfl
  have hB1 := S1.below
  have hlt := (S1.box (i := 0) rfl).2.1
  replace S1 := Lib.hid S1
  cases v
  · go_wp2_with fail
    go_ret2
    exact ⟨by rw [hR.out]; rfl, hB1⟩
  cases q
  · go_wp2_with (go_at_call 63; (with_reducible refine (l1In_any _ _ _ _).mono ?_); rw [hq'.out]; rintro e w' ⟨rfl, rfl⟩)
    go_ret2
    exact ⟨by rw [hR.out]; rfl, hB1⟩
  have hq2 := inB_true.1 hq'.out
  obtain ⟨n, rfl⟩ := Int.eq_ofNat_of_zero_le hq2.1
  have hn : n ≤ p.size := by have := hq2.2; omega
  have hn' : (n : Int) ≤ p.size := by omega
  obtain ⟨X, hXe⟩ : ∃ X, p.extract 0 n = X := ⟨_, rfl⟩
  have hXl : bl X = (bl p).take n := by rw [← hXe, bl_extract]; simp
  have hXs : X.size = n := by rw [← bl_length, hXl, List.length_take, bl_length]; omega
  have hF : Hid (crashB (bl d) (bl p) c n t = (bl d ++ tearB t (bl X), true)) := by unfold Hid; rw [hR.out, hXl]; rfl
  clear hq2 hR hXl
  replace hXs := Lib.hid hXs
  have hcv := fun w' => Lib.run_convert_string_bytes (P := Tryd.prog) w' 9 53 5 X Tryd.underlying9 Tryd.underlying53 Tryd.underlying5
  have hb2 := bw_below w1 5 X
  have hcell : Hid (∀ j (hj : j < (bl X).length), (Lib.bytesWorld w1 5 X).cell? ⟨w1.heap.size, j, none⟩ = some (.int .u8 ((bl X)[j].toNat : Int))) := fun j hj => bw_cell w1 5 X hj
  have c0' : (Lib.bytesWorld w1 5 X).cell? ⟨w.heap.size, 0, none⟩ = some (.string d) := (Lib.bytesWorld_old w1 5 X ⟨w.heap.size, 0, none⟩ hlt).trans c0
  have hB2 := btr hB1 hb2
  have hsz := Lib.bytesWorld_size w1 5 X
  replace hsz := Lib.hid hsz
  replace hb2 := Lib.hid hb2
  have hback := bw_back (P := Tryd.prog) w1 (Lib.bytesWorld w1 5 X) 53 9 5 (bl X) (grownCap w1 X.size 0 5) Tryd.underlying53 Tryd.underlying5 Tryd.underlying9 hcell.out
  rw [bl_length, ms_bl] at hback
  have hadd := fun w' => run_add (P := Tryd.prog) w' d X (by rw [hXs.out]; omega)
  cases t
  · go_wp2_with (go_at_call 63; (with_reducible refine (l1In_any _ _ _ _).mono ?_); rw [hq'.out]; rintro e w' ⟨rfl, rfl⟩)
    go_ret2
    exact ⟨by rw [hF.out]; rfl, hB2⟩
  by_cases hn0 : n = 0
  · have hnn : ¬ (0 : Int) < (n : Int) := by omega
    have hXn : Hid (tearB true (bl X) = bl X) := by
      unfold Hid
      have : bl X = [] := List.eq_nil_of_length_eq_zero (by rw [bl_length, hXs.out]; exact hn0)
      rw [this]; rfl
    clear hn0
    go_wp2_with (go_at_call 63; (with_reducible refine (l1In_any _ _ _ _).mono ?_); rw [hq'.out]; rintro e w' ⟨rfl, rfl⟩)
    go_ret2
    exact ⟨by rw [hF.out, hXn.out]; rfl, hB2⟩
  have hn1 : (0 : Int) < (n : Int) := by omega
  have i1 : ((n : Int) - 1).toNat = n - 1 := by omega
  have i2 : (0 : Int) ≤ (n : Int) - 1 := by omega
  have i3 : (n : Int) - 1 < (X.size : Int) := by rw [hXs.out]; omega
  have k0 := hcell.out (n - 1) (by rw [bl_length, hXs.out]; omega)
  have k1 := bw_frozen w1 5 X (j := n - 1) (by rw [hXs.out]; omega)
  have hl : (bl X).length = n := hXs.out
  have htc := tear_cells hcell.out (by omega)
  have hback2 := bw_back (P := Tryd.prog) w1 _ 53 9 5 (tearB true (bl X)) (grownCap w1 X.size 0 5) Tryd.underlying53 Tryd.underlying5 Tryd.underlying9 htc
  rw [show (tearB true (bl X)).length = X.size from (tearB_len _ _).trans (bl_length X)] at hback2
  simp only [hl] at hback2
  have hadd2 := fun w' => run_add (P := Tryd.prog) w' d (ms (tearB true (bl X))) (by rw [ms_size, tearB_len, hl]; omega)
  have c0'' : ((Lib.bytesWorld w1 5 X).setCell ⟨w1.heap.size, n - 1, none⟩ (.int .u8 ((255 - (((bl X)[n - 1]'(by omega)).toNat : Int)) % 256))).cell? ⟨w.heap.size, 0, none⟩ = some (.string d) :=
    (World.cell?_setCell_other _ _ _ _ (by simp only [ne_eq, Addr.mk.injEq]; omega)).trans c0'
  have hB3 : Below w.heap.size w ((Lib.bytesWorld w1 5 X).setCell ⟨w1.heap.size, n - 1, none⟩ (.int .u8 ((255 - (((bl X)[n - 1]'(by omega)).toNat : Int)) % 256))) := bst hB2 (by simp; omega) _
  clear hback hadd htc
  go_wp2_with (go_at_call 63; (with_reducible refine (l1In_any _ _ _ _).mono ?_); rw [hq'.out]; rintro e w' ⟨rfl, rfl⟩)
  go_ret2
  exact ⟨by rw [hF.out]; rfl, hB3⟩

set_option maxRecDepth 100000 in
set_option maxHeartbeats 2000000 in
theorem implCrashLog_any (d p : ByteArray) (c keep : Int) (t : Bool) (a : Addr) (w : World) (hE : EnvE a w) (hd : d.size ≤ 1200000) (hp : p.size ≤ 1500000) :
    Calls Tryd.prog 27 #[.agg #[.string d, .string p, .int .i64 c], .int .i64 keep, .bool t] w fun e w' => e = .returned (.tuple #[.string (ms (crashB (bl d) (bl p) c keep t).1), .bool (crashB (bl d) (bl p) c keep t).2]) ∧ Below w.heap.size w w' := by
  have hEH := Lib.hid hE
  clear hE
  have S0 := (Sp.start w).alloc_box #[.string d, .string p, .int .i64 c] 31
  replace S0 := Lib.hid S0
  obtain ⟨v, hv⟩ : ∃ v, validB (bl d) (bl p) c = v := ⟨_, rfl⟩
  obtain ⟨q, hq⟩ : ∃ q, inB keep 0 p.size = q := ⟨_, rfl⟩
  have hR : Hid (crashB (bl d) (bl p) c keep t = if v && q then (bl d ++ tearB t ((bl p).take keep.toNat), true) else ([], false)) := by unfold Hid crashB; rw [hv, bl_length, hq]
  have hv' := Lib.hid hv
  have hq' := Lib.hid hq
  clear hv hq
  go_enter Tryd.func27, Tryd.ntmps27
  go_wp2_with fail
  refine (implIsValidLog_any d p c a _ (hEH.out.grow S0.out.below) hd hp).mono ?_
  rw [hv'.out]
  rintro e w1 ⟨rfl, hb1⟩
  have S1 := S0.out.grow hb1
  clear S0 hb1
  have c0 := S1.cell (i := 0) rfl (o := 0) rfl
  have c1 := S1.cell (i := 0) rfl (o := 1) rfl
  have hB1 := S1.below
  have hlt := (S1.box (i := 0) rfl).2.1
  replace S1 := Lib.hid S1
  cases v
  · go_wp2_with fail
    go_ret2
    exact ⟨by rw [hR.out]; rfl, hB1⟩
  cases q
  · go_wp2_with (go_at_call 66; (with_reducible refine (within_any _ _ _ _).mono ?_); rw [hq'.out]; rintro e w' ⟨rfl, rfl⟩)
    go_ret2
    exact ⟨by rw [hR.out]; rfl, hB1⟩
  have hq2 := inB_true.1 hq'.out
  obtain ⟨n, rfl⟩ := Int.eq_ofNat_of_zero_le hq2.1
  have hn : n ≤ p.size := by have := hq2.2; omega
  have hn' : (n : Int) ≤ p.size := by omega
  obtain ⟨X, hXe⟩ : ∃ X, p.extract 0 n = X := ⟨_, rfl⟩
  have hXl : bl X = (bl p).take n := by rw [← hXe, bl_extract]; simp
  have hXs : X.size = n := by rw [← bl_length, hXl, List.length_take, bl_length]; omega
  have hF : Hid (crashB (bl d) (bl p) c n t = (bl d ++ tearB t (bl X), true)) := by unfold Hid; rw [hR.out, hXl]; rfl
  clear hq2 hR hXl
  replace hXs := Lib.hid hXs
  have hadd := fun w' => run_add (P := Tryd.prog) w' d X (by rw [hXs.out]; omega)
  obtain ⟨Y, hY⟩ : ∃ Y, ms (bl d ++ bl X) = Y := ⟨_, rfl⟩
  have hYl : Hid (bl Y = bl d ++ bl X) := by unfold Hid; rw [← hY, bl_ms]
  have hYs : Hid (Y.size = d.size + n) := by unfold Hid; rw [← bl_length, hYl.out, List.length_append, bl_length, bl_length, hXs.out]
  have hYb : Y.size ≤ 3000000 := by rw [hYs.out]; omega
  rw [hY] at hadd
  replace hY := Lib.hid hY
  obtain ⟨w2, hw2⟩ : ∃ w2, w1.drew = w2 := ⟨_, rfl⟩
  have hcv := fun w' => Lib.run_convert_string_bytes (P := Tryd.prog) w' 9 53 5 Y Tryd.underlying9 Tryd.underlying53 Tryd.underlying5
  go_wp2_with (go_at_call 66; (with_reducible refine (within_any _ _ _ _).mono ?_); rw [hq'.out]; rintro e w' ⟨rfl, rfl⟩)
  refine wp_region_tail (S := (fun w' => w'.cell? ⟨w.heap.size, 0, none⟩ = some (.string d) ∧ w'.cell? ⟨w.heap.size, 1, none⟩ = some (.string p))) 7 (by kernel_rfl) (by kernel_rfl) ?_ ?_
  · exact ⟨c0, c1⟩
  intro hS
  rw [hw2]
  rw [hw2] at hS
  have hb12 : Below w1.heap.size w1 w2 := hw2 ▸ bdr (bb _)
  have hB2 := btr hB1 hb12
  have hlt2 : w.heap.size < w2.heap.size := Nat.lt_of_lt_of_le hlt hb12.size
  clear hw2 hb12 hlt hB1 c0 c1
  (refine walkT_take (i := 0) (v := ?_) rfl (by kernel_rfl) (by decide) (by kernel_rfl) (by kernel_rfl) (fun _ _ _ h => h) (Or.inl ⟨by rfl, ?_⟩) (by assumption) ?_; rotate_left; (focus (intro w hSw; (try dsimp only at hSw); go_simp; (try with_reducible rfl); done)); (try simp only [put_rules]))
  (refine walkT_take (i := 1) (v := ?_) rfl (by kernel_rfl) (by decide) (by kernel_rfl) (by kernel_rfl) (fun _ _ _ h => h) (Or.inl ⟨by rfl, ?_⟩) (by assumption) ?_; rotate_left; (focus (intro w hSw; (try dsimp only at hSw); go_simp; (try with_reducible rfl); done)); (try simp only [put_rules]))
  (refine walkT_take (i := 2) (v := ?_) rfl (by kernel_rfl) (by decide) (by kernel_rfl) (by kernel_rfl) (fun _ _ _ h => h) (Or.inl ⟨by rfl, ?_⟩) (by assumption) ?_; rotate_left; (focus (intro w hSw; (try dsimp only at hSw); go_simp; (try with_reducible rfl); done)); (try simp only [put_rules]))
  (refine walkT_take (i := 3) (v := ?_) rfl (by kernel_rfl) (by decide) (by kernel_rfl) (by kernel_rfl) (fun _ _ _ h => h) (Or.inl ⟨by rfl, ?_⟩) (by assumption) ?_; rotate_left; (focus (intro w hSw; (try dsimp only at hSw); go_simp; (try with_reducible rfl); done)); (try simp only [put_rules]))
  (refine walkT_take (i := 4) (v := ?_) rfl (by kernel_rfl) (by decide) (by kernel_rfl) (by kernel_rfl) (fun _ _ _ h => h) (Or.inl ⟨by rfl, ?_⟩) (by assumption) ?_; rotate_left; (focus (intro w hSw; (try dsimp only at hSw); go_simp; (try with_reducible rfl); done)); (try simp only [put_rules]))
  (refine walkT_take (i := 5) (v := ?_) rfl (by kernel_rfl) (by decide) (by kernel_rfl) (by kernel_rfl) (fun _ _ _ h => h) (Or.inl ⟨by rfl, ?_⟩) (by assumption) ?_; rotate_left; (focus (intro w hSw; (try dsimp only at hSw); go_simp; (try with_reducible rfl); done)); (try simp only [put_rules]))
  (refine walkT_take (i := 6) (v := ?_) rfl (by kernel_rfl) (by decide) (by kernel_rfl) (by kernel_rfl) (fun _ _ _ h => h) (Or.inl ⟨by rfl, ?_⟩) (by assumption) ?_; rotate_left; (focus (intro w hSw; (try dsimp only at hSw); go_simp; (try with_reducible rfl); done)); (try simp only [put_rules]))
  (refine walkT_done (by kernel_rfl) ?_)
  simp only [List.drop_succ_cons, List.drop_zero]
  have hcell : Hid (∀ j (hj : j < (bl Y).length), (Lib.bytesWorld w2 5 Y).cell? ⟨w2.heap.size, j, none⟩ = some (.int .u8 ((bl Y)[j].toNat : Int))) := fun j hj => bw_cell w2 5 Y hj
  have hB3 := btr hB2 (bw_below w2 5 Y)
  have hback := bw_back (P := Tryd.prog) w2 (Lib.bytesWorld w2 5 Y) 53 9 5 (bl Y) (grownCap w2 Y.size 0 5) Tryd.underlying53 Tryd.underlying5 Tryd.underlying9 hcell.out
  rw [bl_length, ms_bl] at hback
  clear hS
  cases t
  · go_wp2_with fail
    go_ret2
    exact ⟨by rw [hF.out, ← hY.out]; rfl, hB3⟩
  by_cases hn0 : n = 0
  · have hnn : ¬ (0 : Int) < (n : Int) := by omega
    have hXn : Hid (tearB true (bl X) = bl X) := by
      unfold Hid
      have : bl X = [] := List.eq_nil_of_length_eq_zero (by rw [bl_length, hXs.out]; exact hn0)
      rw [this]; rfl
    clear hn0
    go_wp2_with fail
    go_ret2
    exact ⟨by rw [hF.out, hXn.out, ← hY.out]; rfl, hB3⟩
  have hn1 : (0 : Int) < (n : Int) := by omega
  have hY0 : 0 < Y.size := by rw [hYs.out]; omega
  have i1 : ((Y.size : Int) - 1).toNat = Y.size - 1 := by omega
  have i2 : (0 : Int) ≤ (Y.size : Int) - 1 := by omega
  have i3 : (Y.size : Int) - 1 < (Y.size : Int) := by omega
  have hT : Hid (bl d ++ tearB true (bl X) = tearB true (bl Y)) := by
    unfold Hid
    rw [hYl.out, tearB_append]
    intro h
    have := congrArg List.length h
    rw [bl_length, hXs.out] at this
    simp at this; omega
  have k0 := hcell.out (Y.size - 1) (by rw [bl_length]; omega)
  have k1 := bw_frozen w2 5 Y (j := Y.size - 1) (by omega)
  have hl : (bl Y).length = Y.size := rfl
  have htc := tear_cells hcell.out (by omega)
  have hback2 := bw_back (P := Tryd.prog) w2 _ 53 9 5 (tearB true (bl Y)) (grownCap w2 Y.size 0 5) Tryd.underlying53 Tryd.underlying5 Tryd.underlying9 htc
  rw [show (tearB true (bl Y)).length = Y.size from (tearB_len _ _).trans (bl_length Y)] at hback2
  simp only [hl] at hback2
  have hB4 : Below w.heap.size w ((Lib.bytesWorld w2 5 Y).setCell ⟨w2.heap.size, Y.size - 1, none⟩ (.int .u8 ((255 - (((bl Y)[Y.size - 1]'(by omega)).toNat : Int)) % 256))) := bst hB3 (by simp; omega) _
  clear hback hadd hYs htc
  go_wp2_with fail
  go_ret2
  exact ⟨by rw [hF.out, hT.out]; rfl, hB4⟩
end Go.Proofs.YtfcekfomhpmgpaaDoor
