/- The walk of FnStrings. -/
import Derived.Test.YtfcekfomhpmgpaaDoorNumD
import Derived.Test.YtfcekfomhpmgpaaDoorOpenC
namespace Go.Proofs.YtfcekfomhpmgpaaDoor
open Go.RowKit

theorem xor_u8 {a d : Nat} (ha : a < 256) (hd : d < 256) : bits .xor .u8 (a : Int) (d : Int) = ((a ^^^ d : Nat) : Int) := by
  have h : bits .xor .u8 (a : Int) (d : Int) = IntKind.u8.wrap (((BitVec.ofInt 8 (a : Int) ^^^ BitVec.ofInt 8 (d : Int)).toNat : Nat) : Int) := rfl
  have hx : a ^^^ d < 2 ^ 8 := Nat.xor_lt_two_pow ha hd
  rw [h, BitVec.toNat_xor, BitVec.toNat_ofInt, BitVec.toNat_ofInt]
  have e1 : ((a : Int) % ((2 ^ 8 : Nat) : Int)).toNat = a := by omega
  have e2 : ((d : Int) % ((2 ^ 8 : Nat) : Int)).toNat = d := by omega
  rw [e1, e2]
  exact IntWalk.u8_in _ (by omega)
theorem xor_ne {a d : Nat} (hd : d ≠ 0) : a ^^^ d ≠ a := by
  intro e
  apply hd
  have h : a ^^^ (a ^^^ d) = a ^^^ a := congrArg (a ^^^ ·) e
  rwa [← Nat.xor_assoc, Nat.xor_self, Nat.zero_xor] at h
/-- A byte xor a number that is not 0. -/
theorem xor_byte (c : UInt8) (d : Int) (h0 : 1 ≤ d) (h1 : d ≤ 255) : ∃ c' : UInt8, bits .xor .u8 (c.toNat : Int) d = (c'.toNat : Int) ∧ c' ≠ c := by
  obtain ⟨n, rfl⟩ := Int.eq_ofNat_of_zero_le (show 0 ≤ d by omega)
  have hc := c.toNat_lt
  have hx : c.toNat ^^^ n < 2 ^ 8 := Nat.xor_lt_two_pow hc (by omega)
  refine ⟨UInt8.ofNat (c.toNat ^^^ n), ?_, fun e => ?_⟩
  · rw [xor_u8 hc (by omega), UInt8.toNat_ofNat']
    congr 1
    omega
  · have h2 := congrArg UInt8.toNat e
    rw [UInt8.toNat_ofNat', Nat.mod_eq_of_lt hx] at h2
    exact xor_ne (by omega) h2
/-- A byte stored among the bytes of a string. -/
theorem byte_cells {W : World} {b : Nat} {l : List UInt8} (hc : ∀ j (hj : j < l.length), W.cell? ⟨b, j, none⟩ = some (.int .u8 (l[j].toNat : Int))) {k : Nat} (c : UInt8) :
    ∀ j (hj : j < (l.set k c).length), (W.setCell ⟨b, k, none⟩ (.int .u8 (c.toNat : Int))).cell? ⟨b, j, none⟩ = some (.int .u8 ((l.set k c)[j].toNat : Int)) := by
  intro j hj
  have hj' : j < l.length := by simpa using hj
  rw [List.getElem_set]
  by_cases e : k = j
  · subst e
    rw [if_pos rfl]
    exact World.cell?_setCell_same' _ _ _ (by rw [hc _ hj']; rfl)
  · rw [if_neg e, World.cell?_setCell_other W _ _ _ (by simp only [ne_eq, Addr.mk.injEq]; omega)]
    exact hc j hj'

set_option maxRecDepth 100000 in
set_option maxHeartbeats 8000000 in
theorem FnStrings_walk (ca : Option Addr) (cl cc : Nat) (w : World) (hE : NumEnv w) (hc : CodeOk w ca cl) :
    Calls Tryd.prog 10 #[.slice ca cl cc] w fun e w' => e = .returned (.bool true) ∧ Below w.heap.size w w' := by
  have hEH := Lib.hid hE
  have hcH := Lib.hid hc
  clear hE hc
  by_cases hbig : (65536 : Int) < (cl : Int)
  · go_enter Tryd.func10, Tryd.ntmps10
    go_wp2_with fail
    refine (vBigS_any _ _ _ _).mono ?_
    rintro e w1 ⟨rfl, rfl⟩
    rw [decide_eq_true hbig]
    go_wp2_with fail
    go_ret
    exact ⟨rfl, bb _⟩
  have hsm : cl ≤ 65536 := by omega
  have hv := Lib.hid (decide_eq_false hbig)
  clear hbig
  go_enter Tryd.func10, Tryd.ntmps10
  go_wp2_with fail
  refine (vBigS_any _ _ _ _).mono ?_
  rintro e w1 ⟨rfl, rfl⟩
  rw [hv.out]
  go_wp2_with fail
  refine (drawFormat_any ca cl cc w1 hcH.out hsm).mono ?_
  rintro e w2 ⟨n, hn0, hn1, rfl, hb2⟩
  obtain ⟨f, hf⟩ : ∃ f, fmtB n = f := ⟨_, rfl⟩
  obtain ⟨f1, f2⟩ := f
  have hfl : f1.length ≤ 20 := by
    unfold fmtB at hf
    split at hf
    · rename_i hq
      have hq := inB_true.1 hq
      simp only [Prod.mk.injEq] at hf
      rw [← hf.1]
      rcases Int.lt_or_le n 0 with h | h
      · obtain ⟨u, rfl⟩ : ∃ u : Nat, n = -(u : Int) := ⟨n.natAbs, by omega⟩
        rw [itoa_neg u (by omega), List.length_cons]
        have := decDigits_len 5 u (by omega)
        omega
      · have := itoa_len h (by omega)
        omega
    · simp only [Prod.mk.injEq] at hf
      rw [← hf.1]; simp
  have hback : Hid (f2 = true → numB f1 = (n, true)) := by
    intro h
    unfold fmtB at hf
    split at hf
    · rename_i hq
      have hq := inB_true.1 hq
      simp only [Prod.mk.injEq] at hf
      rw [← hf.1]
      exact numB_itoa hq.1 hq.2
    · simp only [Prod.mk.injEq] at hf
      rw [← hf.2] at h; cases h
  have hI := Lib.hid fun w hE => implFormat_at hf w hE (by omega) (by omega)
  have hS := Lib.hid fun w => specFormat_any n w
  rw [hf] at hS
  clear hf
  go_wp2_with fail
  refine (hI.out _ (hEH.out.grow hb2).env).mono ?_
  rintro e w3 ⟨rfl, hb3⟩
  go_wp2_with fail
  refine (hS.out _).mono ?_
  rintro e w4 ⟨rfl, hb4⟩
  have hB4 : Below w1.heap.size w1 w4 := btr (btr hb2 hb3) hb4
  clear hI hS hb2 hb3 hb4
  go_wp2_with fail
  refine (drawParse_any ca cl cc _ (hcH.out.grow hB4) hsm).mono ?_
  rintro e w5 ⟨t, ht, rfl, hb5⟩
  have hI := Lib.hid fun w hE => implParse_any t w hE (by omega)
  have hS := Lib.hid fun w => specParse_any t w (by omega)
  generalize numB (bl t) = r at hI hS
  obtain ⟨r1, r2⟩ := r
  have hB5 := btr hB4 hb5
  clear hB4 hb5
  go_wp2_with fail
  refine (hI.out _ (hEH.out.grow hB5)).mono ?_
  rintro e w6 ⟨rfl, hb6⟩
  go_wp2_with fail
  refine (hS.out _).mono ?_
  rintro e w7 ⟨rfl, hb7⟩
  have hB7 := btr (btr hB5 hb6) hb7
  clear hI hS hB5 hb6 hb7
  go_wp2_with fail
  refine (drawSum_any ca cl cc _ (hcH.out.grow hB7) hsm).mono ?_
  rintro e w8 ⟨x, hx, rfl, hb8⟩
  have hB8 := btr hB7 hb8
  clear hB7 hb8
  obtain ⟨y, hy⟩ : ∃ y, appB (bl x) = y := ⟨_, rfl⟩
  obtain ⟨y1, y2⟩ := y
  have hI := Lib.hid fun w hE => implAppendChecksum_any x w hE (by omega)
  have hS := Lib.hid fun w => specAppendChecksum_any x w (by omega)
  rw [hy] at hI hS
  replace hy := Lib.hid hy
  go_wp2_with fail
  refine (hI.out _ (hEH.out.grow hB8).env).mono ?_
  rintro e w9 ⟨rfl, hb9⟩
  go_wp2_with fail
  refine (hS.out _).mono ?_
  rintro e w10 ⟨rfl, hb10⟩
  have hB10 := btr (btr hB8 hb9) hb10
  clear hI hS hB8 hb9 hb10
  go_wp2_with fail
  have hP := Lib.hid fun w hE => implParse_any (ms f1) w hE (by rw [ms_size]; omega)
  rw [bl_ms] at hP
  obtain ⟨b, hb⟩ : ∃ b, numB f1 = b := ⟨_, rfl⟩
  rw [hb] at hP hback
  obtain ⟨b1, b2⟩ := b
  clear hb
  refine (hP.out _ (hEH.out.grow hB10)).mono ?_
  rintro e w11 ⟨rfl, hb11⟩
  have hB11 := btr hB10 hb11
  clear hP hB10 hb11
  have hfin : Hid (f2 = false ∨ (f2 = true ∧ b1 = n ∧ b2 = true)) := by
    cases f2
    · exact .inl rfl
    · have h := hback.out rfl
      simp only [Prod.mk.injEq] at h
      exact .inr ⟨rfl, h.1, h.2⟩
  clear hback
  rcases hfin.out with rfl | ⟨rfl, rfl, rfl⟩
  · clear hfin
    cases y2
    · have hy1 : Hid (y1 = []) := by
        have h := hy.out
        unfold appB at h
        split at h
        · simp at h
        · simp only [Prod.mk.injEq] at h; exact h.1.symm
      obtain rfl := hy1.out
      clear hy1
      go_wp2_with fail
      go_ret
      exact ⟨rfl, hB11⟩
    have hyh : hasB (bl x) 35 = false := (appB_has (by rw [hy.out])).2
    have hy1 : y1 = sealB (bl x) := by have h := (appB_has (l := bl x) (by rw [hy.out])).1; rw [hy.out] at h; exact h
    have hys := Lib.hid (ver_seal (x := bl x) (by rw [hy.out]))
    have hyl := sealB_length (bl x)
    rw [bl_length] at hyl
    have hyc := Lib.hid fun k hk c hc => @ver_change (bl x) hyh k hk c hc
    rw [← hy1] at hys hyl hyc
    have hpos : 0 < y1.length := by rw [hy1]; simp [sealB]; omega
    clear hy hyh hy1
    obtain ⟨Y, hY⟩ : ∃ Y, ms y1 = Y := ⟨_, rfl⟩
    have hYb : Hid (bl Y = y1) := by unfold Hid; rw [← hY]; rfl
    have hYs : Y.size = y1.length := by rw [← hY]; rfl
    rw [hY]
    rw [← hYb.out] at hys hyc
    clear hY
    rw [← hYs] at hpos hyl
    replace hYs := Lib.hid hYs
    go_wp2_with fail
    refine (implVerifyChecksum_any Y _ (hEH.out.grow hB11).env (by omega)).mono ?_
    rw [hys.out, ms_bl]
    rintro e w12 ⟨rfl, hb12⟩
    have hB12 := btr hB11 hb12
    clear hB11 hb12 hys
    have hcv := fun w' => Lib.run_convert_string_bytes (P := Tryd.prog) w' 9 53 5 Y Tryd.underlying9 Tryd.underlying53 Tryd.underlying5
    have hB13 := btr hB12 (bw_below w12 5 Y)
    have hcell : Hid (∀ j (hj : j < (bl Y).length), (Lib.bytesWorld w12 5 Y).cell? ⟨w12.heap.size, j, none⟩ = some (.int .u8 ((bl Y)[j].toNat : Int))) := fun j hj => bw_cell w12 5 Y hj
    have hfrz := Lib.hid fun j (hj : j < Y.size) => bw_frozen w12 5 Y hj
    have hbs := Lib.hid (Lib.bytesWorld_size w12 5 Y)
    have hbw := hB12.size
    go_wp2_with fail
    refine (vAt_any ca cl cc 9 _ (hcH.out.grow hB13) hsm (by decide)).mono ?_
    rintro e w13 ⟨v9, h90, h91, rfl, hw13⟩
    subst hw13
    obtain ⟨k, hk⟩ : ∃ k : Nat, v9 % (Y.size : Int) = (k : Int) := Int.eq_ofNat_of_zero_le (Int.emod_nonneg _ (by omega))
    have hkY : k < Y.size := by have := Int.emod_lt_of_pos v9 (show (0 : Int) < Y.size by omega); omega
    have hkY' : (k : Int) < (Y.size : Int) := by omega
    have hposI : (0 : Int) < (Y.size : Int) := by omega
    have k0 := hcell.out k (by rw [bl_length]; exact hkY)
    have k1 := hfrz.out k hkY
    have hsetb := Lib.hid fun c => byte_cells hcell.out (k := k) c
    have hchg := Lib.hid fun c hc => hyc.out k (by rw [bl_length]; exact hkY) c hc
    generalize hcc : (bl Y)[k]'(by rw [bl_length]; exact hkY) = cc0 at k0 hchg
    clear hcc hyc hcell hfrz
    go_wp2_with fail
    refine wp_region_tail_lit (S := (fun w' => w'.cell? ⟨w12.heap.size, k, none⟩ = some (.int .u8 (cc0.toNat : Int)))) 13 [false, false, false, false, false, false, false, false, false, false, false, false, false, false] (by kernel_rfl) (by kernel_rfl) (by kernel_rfl) ?_ ?_
    · exact k0
    intro hSS
    (refine walkT_take (i := 0) (v := ?_) rfl (by kernel_rfl) (by decide) (by kernel_rfl) (by kernel_rfl) (fun _ _ _ h => h) (Or.inl ⟨by rfl, ?_⟩) (by assumption) ?_; rotate_left; (focus (intro w hSw; (try dsimp only at hSw); go_simp; (try with_reducible rfl); done)); (try simp only [put_rules]))
    (refine walkT_take (i := 1) (v := ?_) rfl (by kernel_rfl) (by decide) (by kernel_rfl) (by kernel_rfl) (fun _ _ _ h => h) (Or.inl ⟨by rfl, ?_⟩) (by assumption) ?_; rotate_left; (focus (intro w hSw; (try dsimp only at hSw); go_simp; (try with_reducible rfl); done)); (try simp only [put_rules]))
    (refine walkT_take (i := 2) (v := ?_) rfl (by kernel_rfl) (by decide) (by kernel_rfl) (by kernel_rfl) (fun _ _ _ h => h) (Or.inl ⟨by rfl, ?_⟩) (by assumption) ?_; rotate_left; (focus (intro w hSw; (try dsimp only at hSw); go_simp; (try with_reducible rfl); done)); (try simp only [put_rules]))
    (refine walkT_take (i := 3) (v := ?_) rfl (by kernel_rfl) (by decide) (by kernel_rfl) (by kernel_rfl) (fun _ _ _ h => h) (Or.inl ⟨by rfl, ?_⟩) (by assumption) ?_; rotate_left; (focus (intro w hSw; (try dsimp only at hSw); go_simp; (try with_reducible rfl); done)); (try simp only [put_rules]))
    (refine walkT_take (i := 4) (v := ?_) rfl (by kernel_rfl) (by decide) (by kernel_rfl) (by kernel_rfl) (fun _ _ _ h => h) (Or.inl ⟨by rfl, ?_⟩) (by assumption) ?_; rotate_left; (focus (intro w hSw; (try dsimp only at hSw); go_simp; (try with_reducible rfl); done)); (try simp only [put_rules]))
    (refine walkT_take (i := 5) (v := ?_) rfl (by kernel_rfl) (by decide) (by kernel_rfl) (by kernel_rfl) (fun _ _ _ h => h) (Or.inl ⟨by rfl, ?_⟩) (by assumption) ?_; rotate_left; (focus (intro w hSw; (try dsimp only at hSw); go_simp; (try with_reducible rfl); done)); (try simp only [put_rules]))
    (refine walkT_take (i := 6) (v := ?_) rfl (by kernel_rfl) (by decide) (by kernel_rfl) (by kernel_rfl) (fun _ _ _ h => h) (Or.inl ⟨by rfl, ?_⟩) (by assumption) ?_; rotate_left; (focus (intro w hSw; (try dsimp only at hSw); go_simp; (try with_reducible rfl); done)); (try simp only [put_rules]))
    (refine walkT_ready (rs := [7]) (by kernel_rfl) (by simp) (by decide) ?_; refine AllT.cons rfl (fun K hK => ?_) AllT.nil)
    go_simp
    go_at_call 48
    refine (vAt_any ca cl cc 10 _ (hcH.out.grow (btr hB13 (bdr (bb _)))) hsm (by decide)).mono ?_
    rintro e w14 ⟨v10, h100, h101, rfl, rfl⟩
    have hd0 : 1 ≤ 1 + v10 % 255 := by have := Int.emod_nonneg v10 (show (255 : Int) ≠ 0 by decide); omega
    have hd1 : 1 + v10 % 255 ≤ 255 := by have := Int.emod_lt_of_pos v10 (show (0 : Int) < 255 by decide); omega
    obtain ⟨c', hc', hcne⟩ := xor_byte cc0 (1 + v10 % 255) hd0 hd1
    go_wp2_with fail
    refine hK.out _ _ hSS (fun hS2 => ?_)
    clear hK hSS
    (try simp only [put_rules])
    (refine walkT_take (i := 8) (v := ?_) rfl (by kernel_rfl) (by decide) (by kernel_rfl) (by kernel_rfl) (fun _ _ _ h => h) (Or.inl ⟨by rfl, ?_⟩) (by assumption) ?_; rotate_left; (focus (intro w hSw; (try dsimp only at hSw); go_simp; (try with_reducible rfl); done)); (try simp only [put_rules]))
    (refine walkT_take (i := 9) (v := ?_) rfl (by kernel_rfl) (by decide) (by kernel_rfl) (by kernel_rfl) (fun _ _ _ h => h) (Or.inl ⟨by rfl, ?_⟩) (by assumption) ?_; rotate_left; (focus (intro w hSw; (try dsimp only at hSw); go_simp; (try with_reducible rfl); done)); (try simp only [put_rules]))
    (refine walkT_take (i := 10) (v := ?_) rfl (by kernel_rfl) (by decide) (by kernel_rfl) (by kernel_rfl) (fun _ _ _ h => h) (Or.inl ⟨by rfl, ?_⟩) (by assumption) ?_; rotate_left; (focus (intro w hSw; (try dsimp only at hSw); go_simp; (try with_reducible rfl); done)); (try simp only [put_rules]))
    (refine walkT_take (i := 11) (v := ?_) rfl (by kernel_rfl) (by decide) (by kernel_rfl) (by kernel_rfl) (fun _ _ _ h => h) (Or.inl ⟨by rfl, ?_⟩) (by assumption) ?_; rotate_left; (focus (intro w hSw; (try dsimp only at hSw); go_simp; (try with_reducible rfl); done)); (try simp only [put_rules]))
    (refine walkT_take (i := 12) (v := ?_) rfl (by kernel_rfl) (by decide) (by kernel_rfl) (by kernel_rfl) (fun _ _ _ h => h) (Or.inl ⟨by rfl, ?_⟩) (by assumption) ?_; rotate_left; (focus (intro w hSw; (try dsimp only at hSw); go_simp; (try with_reducible rfl); done)); (try simp only [put_rules]))
    (refine walkT_done (by kernel_rfl) ?_)
    simp only [List.drop_succ_cons, List.drop_zero]
    have hcl2 := hsetb.out c'
    have hl2 : ((bl Y).set k c').length = Y.size := by rw [List.length_set, bl_length]
    have hback2 := bw_back (P := Tryd.prog) w12 ((Lib.bytesWorld w12 5 Y).setCell ⟨w12.heap.size, k, none⟩ (.int .u8 (c'.toNat : Int))).drew 53 9 5 ((bl Y).set k c') (grownCap w12 Y.size 0 5) Tryd.underlying53 Tryd.underlying5 Tryd.underlying9 (fun j hj => hcl2 j hj)
    rw [hl2] at hback2
    have hB14 : Below w1.heap.size w1 ((Lib.bytesWorld w12 5 Y).setCell ⟨w12.heap.size, k, none⟩ (.int .u8 (c'.toNat : Int))).drew := bdr (bst hB13 (by simpa using hB12.size) _)
    have hver := hchg.out c' hcne
    have hV := Lib.hid fun w hE => implVerifyChecksum_any (ms ((bl Y).set k c')) w hE (by rw [ms_size, hl2]; omega)
    rw [bl_ms] at hV
    generalize verB ((bl Y).set k c') = vv at hver hV
    obtain ⟨vv1, vv2⟩ := vv
    obtain rfl : vv2 = false := hver
    clear hcl2 hchg hsetb
    go_wp2_with fail
    refine (hV.out _ (hEH.out.grow hB14).env).mono ?_
    rintro e w15 ⟨rfl, hb15⟩
    have hB15 := btr hB14 hb15
    clear hB14 hb15 hV
    go_wp2_with fail
    go_ret
    exact ⟨rfl, hB15⟩
  · clear hfin
    cases y2
    · have hy1 : Hid (y1 = []) := by
        have h := hy.out
        unfold appB at h
        split at h
        · simp at h
        · simp only [Prod.mk.injEq] at h; exact h.1.symm
      obtain rfl := hy1.out
      clear hy1
      go_wp2_with fail
      go_ret
      exact ⟨rfl, hB11⟩
    have hyh : hasB (bl x) 35 = false := (appB_has (by rw [hy.out])).2
    have hy1 : y1 = sealB (bl x) := by have h := (appB_has (l := bl x) (by rw [hy.out])).1; rw [hy.out] at h; exact h
    have hys := Lib.hid (ver_seal (x := bl x) (by rw [hy.out]))
    have hyl := sealB_length (bl x)
    rw [bl_length] at hyl
    have hyc := Lib.hid fun k hk c hc => @ver_change (bl x) hyh k hk c hc
    rw [← hy1] at hys hyl hyc
    have hpos : 0 < y1.length := by rw [hy1]; simp [sealB]; omega
    clear hy hyh hy1
    obtain ⟨Y, hY⟩ : ∃ Y, ms y1 = Y := ⟨_, rfl⟩
    have hYb : Hid (bl Y = y1) := by unfold Hid; rw [← hY]; rfl
    have hYs : Y.size = y1.length := by rw [← hY]; rfl
    rw [hY]
    rw [← hYb.out] at hys hyc
    clear hY
    rw [← hYs] at hpos hyl
    replace hYs := Lib.hid hYs
    go_wp2_with fail
    refine (implVerifyChecksum_any Y _ (hEH.out.grow hB11).env (by omega)).mono ?_
    rw [hys.out, ms_bl]
    rintro e w12 ⟨rfl, hb12⟩
    have hB12 := btr hB11 hb12
    clear hB11 hb12 hys
    have hcv := fun w' => Lib.run_convert_string_bytes (P := Tryd.prog) w' 9 53 5 Y Tryd.underlying9 Tryd.underlying53 Tryd.underlying5
    have hB13 := btr hB12 (bw_below w12 5 Y)
    have hcell : Hid (∀ j (hj : j < (bl Y).length), (Lib.bytesWorld w12 5 Y).cell? ⟨w12.heap.size, j, none⟩ = some (.int .u8 ((bl Y)[j].toNat : Int))) := fun j hj => bw_cell w12 5 Y hj
    have hfrz := Lib.hid fun j (hj : j < Y.size) => bw_frozen w12 5 Y hj
    have hbs := Lib.hid (Lib.bytesWorld_size w12 5 Y)
    have hbw := hB12.size
    go_wp2_with fail
    refine (vAt_any ca cl cc 9 _ (hcH.out.grow hB13) hsm (by decide)).mono ?_
    rintro e w13 ⟨v9, h90, h91, rfl, hw13⟩
    subst hw13
    obtain ⟨k, hk⟩ : ∃ k : Nat, v9 % (Y.size : Int) = (k : Int) := Int.eq_ofNat_of_zero_le (Int.emod_nonneg _ (by omega))
    have hkY : k < Y.size := by have := Int.emod_lt_of_pos v9 (show (0 : Int) < Y.size by omega); omega
    have hkY' : (k : Int) < (Y.size : Int) := by omega
    have hposI : (0 : Int) < (Y.size : Int) := by omega
    have k0 := hcell.out k (by rw [bl_length]; exact hkY)
    have k1 := hfrz.out k hkY
    have hsetb := Lib.hid fun c => byte_cells hcell.out (k := k) c
    have hchg := Lib.hid fun c hc => hyc.out k (by rw [bl_length]; exact hkY) c hc
    generalize hcc : (bl Y)[k]'(by rw [bl_length]; exact hkY) = cc0 at k0 hchg
    clear hcc hyc hcell hfrz
    go_wp2_with fail
    refine wp_region_tail_lit (S := (fun w' => w'.cell? ⟨w12.heap.size, k, none⟩ = some (.int .u8 (cc0.toNat : Int)))) 13 [false, false, false, false, false, false, false, false, false, false, false, false, false, false] (by kernel_rfl) (by kernel_rfl) (by kernel_rfl) ?_ ?_
    · exact k0
    intro hSS
    (refine walkT_take (i := 0) (v := ?_) rfl (by kernel_rfl) (by decide) (by kernel_rfl) (by kernel_rfl) (fun _ _ _ h => h) (Or.inl ⟨by rfl, ?_⟩) (by assumption) ?_; rotate_left; (focus (intro w hSw; (try dsimp only at hSw); go_simp; (try with_reducible rfl); done)); (try simp only [put_rules]))
    (refine walkT_take (i := 1) (v := ?_) rfl (by kernel_rfl) (by decide) (by kernel_rfl) (by kernel_rfl) (fun _ _ _ h => h) (Or.inl ⟨by rfl, ?_⟩) (by assumption) ?_; rotate_left; (focus (intro w hSw; (try dsimp only at hSw); go_simp; (try with_reducible rfl); done)); (try simp only [put_rules]))
    (refine walkT_take (i := 2) (v := ?_) rfl (by kernel_rfl) (by decide) (by kernel_rfl) (by kernel_rfl) (fun _ _ _ h => h) (Or.inl ⟨by rfl, ?_⟩) (by assumption) ?_; rotate_left; (focus (intro w hSw; (try dsimp only at hSw); go_simp; (try with_reducible rfl); done)); (try simp only [put_rules]))
    (refine walkT_take (i := 3) (v := ?_) rfl (by kernel_rfl) (by decide) (by kernel_rfl) (by kernel_rfl) (fun _ _ _ h => h) (Or.inl ⟨by rfl, ?_⟩) (by assumption) ?_; rotate_left; (focus (intro w hSw; (try dsimp only at hSw); go_simp; (try with_reducible rfl); done)); (try simp only [put_rules]))
    (refine walkT_take (i := 4) (v := ?_) rfl (by kernel_rfl) (by decide) (by kernel_rfl) (by kernel_rfl) (fun _ _ _ h => h) (Or.inl ⟨by rfl, ?_⟩) (by assumption) ?_; rotate_left; (focus (intro w hSw; (try dsimp only at hSw); go_simp; (try with_reducible rfl); done)); (try simp only [put_rules]))
    (refine walkT_take (i := 5) (v := ?_) rfl (by kernel_rfl) (by decide) (by kernel_rfl) (by kernel_rfl) (fun _ _ _ h => h) (Or.inl ⟨by rfl, ?_⟩) (by assumption) ?_; rotate_left; (focus (intro w hSw; (try dsimp only at hSw); go_simp; (try with_reducible rfl); done)); (try simp only [put_rules]))
    (refine walkT_take (i := 6) (v := ?_) rfl (by kernel_rfl) (by decide) (by kernel_rfl) (by kernel_rfl) (fun _ _ _ h => h) (Or.inl ⟨by rfl, ?_⟩) (by assumption) ?_; rotate_left; (focus (intro w hSw; (try dsimp only at hSw); go_simp; (try with_reducible rfl); done)); (try simp only [put_rules]))
    (refine walkT_ready (rs := [7]) (by kernel_rfl) (by simp) (by decide) ?_; refine AllT.cons rfl (fun K hK => ?_) AllT.nil)
    go_simp
    go_at_call 48
    refine (vAt_any ca cl cc 10 _ (hcH.out.grow (btr hB13 (bdr (bb _)))) hsm (by decide)).mono ?_
    rintro e w14 ⟨v10, h100, h101, rfl, rfl⟩
    have hd0 : 1 ≤ 1 + v10 % 255 := by have := Int.emod_nonneg v10 (show (255 : Int) ≠ 0 by decide); omega
    have hd1 : 1 + v10 % 255 ≤ 255 := by have := Int.emod_lt_of_pos v10 (show (0 : Int) < 255 by decide); omega
    obtain ⟨c', hc', hcne⟩ := xor_byte cc0 (1 + v10 % 255) hd0 hd1
    go_wp2_with fail
    refine hK.out _ _ hSS (fun hS2 => ?_)
    clear hK hSS
    (try simp only [put_rules])
    (refine walkT_take (i := 8) (v := ?_) rfl (by kernel_rfl) (by decide) (by kernel_rfl) (by kernel_rfl) (fun _ _ _ h => h) (Or.inl ⟨by rfl, ?_⟩) (by assumption) ?_; rotate_left; (focus (intro w hSw; (try dsimp only at hSw); go_simp; (try with_reducible rfl); done)); (try simp only [put_rules]))
    (refine walkT_take (i := 9) (v := ?_) rfl (by kernel_rfl) (by decide) (by kernel_rfl) (by kernel_rfl) (fun _ _ _ h => h) (Or.inl ⟨by rfl, ?_⟩) (by assumption) ?_; rotate_left; (focus (intro w hSw; (try dsimp only at hSw); go_simp; (try with_reducible rfl); done)); (try simp only [put_rules]))
    (refine walkT_take (i := 10) (v := ?_) rfl (by kernel_rfl) (by decide) (by kernel_rfl) (by kernel_rfl) (fun _ _ _ h => h) (Or.inl ⟨by rfl, ?_⟩) (by assumption) ?_; rotate_left; (focus (intro w hSw; (try dsimp only at hSw); go_simp; (try with_reducible rfl); done)); (try simp only [put_rules]))
    (refine walkT_take (i := 11) (v := ?_) rfl (by kernel_rfl) (by decide) (by kernel_rfl) (by kernel_rfl) (fun _ _ _ h => h) (Or.inl ⟨by rfl, ?_⟩) (by assumption) ?_; rotate_left; (focus (intro w hSw; (try dsimp only at hSw); go_simp; (try with_reducible rfl); done)); (try simp only [put_rules]))
    (refine walkT_take (i := 12) (v := ?_) rfl (by kernel_rfl) (by decide) (by kernel_rfl) (by kernel_rfl) (fun _ _ _ h => h) (Or.inl ⟨by rfl, ?_⟩) (by assumption) ?_; rotate_left; (focus (intro w hSw; (try dsimp only at hSw); go_simp; (try with_reducible rfl); done)); (try simp only [put_rules]))
    (refine walkT_done (by kernel_rfl) ?_)
    simp only [List.drop_succ_cons, List.drop_zero]
    have hcl2 := hsetb.out c'
    have hl2 : ((bl Y).set k c').length = Y.size := by rw [List.length_set, bl_length]
    have hback2 := bw_back (P := Tryd.prog) w12 ((Lib.bytesWorld w12 5 Y).setCell ⟨w12.heap.size, k, none⟩ (.int .u8 (c'.toNat : Int))).drew 53 9 5 ((bl Y).set k c') (grownCap w12 Y.size 0 5) Tryd.underlying53 Tryd.underlying5 Tryd.underlying9 (fun j hj => hcl2 j hj)
    rw [hl2] at hback2
    have hB14 : Below w1.heap.size w1 ((Lib.bytesWorld w12 5 Y).setCell ⟨w12.heap.size, k, none⟩ (.int .u8 (c'.toNat : Int))).drew := bdr (bst hB13 (by simpa using hB12.size) _)
    have hver := hchg.out c' hcne
    have hV := Lib.hid fun w hE => implVerifyChecksum_any (ms ((bl Y).set k c')) w hE (by rw [ms_size, hl2]; omega)
    rw [bl_ms] at hV
    generalize verB ((bl Y).set k c') = vv at hver hV
    obtain ⟨vv1, vv2⟩ := vv
    obtain rfl : vv2 = false := hver
    clear hcl2 hchg hsetb
    go_wp2_with fail
    refine (hV.out _ (hEH.out.grow hB14).env).mono ?_
    rintro e w15 ⟨rfl, hb15⟩
    have hB15 := btr hB14 hb15
    clear hB14 hb15 hV
    go_wp2_with fail
    go_ret
    exact ⟨rfl, hB15⟩
end Go.Proofs.YtfcekfomhpmgpaaDoor
