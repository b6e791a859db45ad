/- Contracts: the round of a clause, in the program. -/
import Derived.Test.YtebpknekaljgnaaNwV
import Derived.Test.YtebpknekaljgnaaHTailB
namespace Go.Proofs.Ytebpknekaljgnaa
open Go.RowKit Go.Maps

theorem map_look {w : World} {D : DataW Unit} {b n : Nat} (hown : w.ownsMap Try.prog 66 (plainElem Try.prog 3) b n D) {m : Nat} (hm : m < 65536) :
    ∃ z, (Instr.lookup 62 (.map (some b)) (.int .u16 m) true).run Try.prog w = .ok (.tuple #[.int .i64 z, .bool (has D (mkey m))]) w ∧ D.atKey (mkey m) (.lit (.int .i64 0)) = .lit (.int .i64 z) := by
  obtain ⟨v, ps, hrun, hv⟩ := hown.look_ok mkeyed Try.underlying62 (zeroInt _) (zd := .lit (.int .i64 0)) (zp := []) (plainElem_int Try.underlying3 (by decide)) (keyOf_int_mk Try.underlying66 (u16_wf hm))
  obtain ⟨c, rfl, hc, hwc⟩ := plainElem_int_inv Try.underlying3 hv
  exact ⟨c, hrun, congrArg Prod.fst hc⟩

/-- Where a mask stands. -/
def Stands (ms : List Nat) (R : List Int) (m : Nat) (z : Int) : Prop := (m ∉ ms ∧ z = -1) ∨ ∃ i, ∃ h : i < ms.length, ms[i] = m ∧ z = R.getD i 0
theorem stands_of {D : DataW Unit} {ms : List Nat} {R : List Int} (h : RMap D ms R) {m : Nat} {z : Int} (hz : D.atKey (mkey m) (.lit (.int .i64 0)) = .lit (.int .i64 z)) : (has D (mkey m) = false → Stands ms R m (-1)) ∧ (has D (mkey m) = true → Stands ms R m z) := by
  refine ⟨fun hh => .inl ⟨fun hin => ?_, rfl⟩, fun hh => .inr ?_⟩
  · rw [(h.has_ m).2 hin] at hh; cases hh
  · obtain ⟨i, hi, e⟩ := List.getElem_of_mem ((h.has_ m).1 hh)
    refine ⟨i, hi, e, ?_⟩
    have := h.at_ i hi
    rw [e, hz] at this
    injection this with this
    injection this

set_option maxRecDepth 100000 in
set_option maxHeartbeats 4000000 in
theorem roundOf_any {w0 w : World} {bx mb : Nat} {ms : List Nat} {R : List Int} (h : XS w0 bx mb ms R w) (u : Value) (c : List Int) (F : List Nat) (hy : Ty.int.row false w u c F) (hg : Good c) :
    Calls Try.prog 36 #[.pointer (some ⟨bx, 0, none⟩), u] w fun e w' => ∃ z : Int, e = .returned (.int .i64 z) ∧ Stands ms R (maskN c) z ∧ w' = w.drew := by
  obtain ⟨ua, uc, rfl, _, _⟩ := Ty.row_len hy
  obtain ⟨mv, last, X, S⟩ := h
  have k1 := S.drew.cell (i := 0) rfl (o := 1) rfl
  obtain ⟨D, hown, hD⟩ := S.drew.map_at (i := 2) rfl
  have hm4 := maskN_lt hg.mem
  obtain ⟨z, hrun, hat⟩ := map_look hown (m := maskN c) (by omega)
  obtain ⟨hn, hyes⟩ := stands_of hD hat
  have hcall := Lib.hid (maskOf_any _ c F w.drew (Ty.row_grow hy (bdr (bb _))) hg.mem)
  replace hn := Lib.hid hn
  replace hyes := Lib.hid hyes
  generalize has D (mkey (maskN c)) = q at *
  clear hown hD hat S hy
  go_enter Try.func36, Try.ntmps36
  go_wp2_with fail
  refine wp_region_held_lit (S := (fun w' => w'.cell? ⟨bx, 1, none⟩ = some (.map (some mb)) ∧ (Instr.lookup 62 (.map (some mb)) (.int .u16 (maskN c)) true).run Try.prog w' = .ok (.tuple #[.int .i64 z, .bool q]) w')) 12 [false, false, false, false, false, false, false, false, false, false, false, false] (by kernel_rfl) (by kernel_rfl) (by kernel_rfl) ?_ ?_
  · exact ⟨k1, hrun⟩
  intro hSc
  (refine wpAnyH_take (i := 0) (v := ?_) rfl (by kernel_rfl) (by kernel_rfl) (by kernel_rfl) (fun _ _ _ h => h) (Or.inl ⟨by rfl, ?_⟩) (by assumption) ?_; rotate_left; (focus (intro w hSw; (try dsimp only at hSw); go_simp; (try with_reducible rfl); done)); (try simp only [put_rules]))
  (refine wpAnyH_take (i := 1) (v := ?_) rfl (by kernel_rfl) (by kernel_rfl) (by kernel_rfl) (fun _ _ _ h => h) (Or.inl ⟨by rfl, ?_⟩) (by assumption) ?_; rotate_left; (focus (intro w hSw; (try dsimp only at hSw); go_simp; (try with_reducible rfl); done)); (try simp only [put_rules]))
  (refine wpAnyH_take (i := 2) (v := ?_) rfl (by kernel_rfl) (by kernel_rfl) (by kernel_rfl) (fun _ _ _ h => h) (Or.inl ⟨by rfl, ?_⟩) (by assumption) ?_; rotate_left; (focus (intro w hSw; (try dsimp only at hSw); go_simp; (try with_reducible rfl); done)); (try simp only [put_rules]))
  (refine wpAnyH_take (i := 3) (v := ?_) rfl (by kernel_rfl) (by kernel_rfl) (by kernel_rfl) (fun _ _ _ h => h) (Or.inl ⟨by rfl, ?_⟩) (by assumption) ?_; rotate_left; (focus (intro w hSw; (try dsimp only at hSw); go_simp; (try with_reducible rfl); done)); (try simp only [put_rules]))
  (refine wpAnyH_take (i := 4) (v := ?_) rfl (by kernel_rfl) (by kernel_rfl) (by kernel_rfl) (fun _ _ _ h => h) (Or.inl ⟨by rfl, ?_⟩) (by assumption) ?_; rotate_left; (focus (intro w hSw; (try dsimp only at hSw); go_simp; (try with_reducible rfl); done)); (try simp only [put_rules]))
  (refine wpAnyH_ready (rs := [5]) (by kernel_rfl) (by simp) ?_; refine AllReadyH.cons rfl (fun K hK => ?_) AllReadyH.nil)
  go_simp
  go_at_call 61
  refine hcall.out.mono ?_
  rintro e w1 ⟨rfl, rfl⟩
  go_wp2_with fail
  refine hK.out _ _ ⟨k1, hrun⟩ (fun hSd => ?_)
  clear hK hSc
  (try simp only [put_rules])
  (refine wpAnyH_take (i := 6) (v := ?_) rfl (by kernel_rfl) (by kernel_rfl) (by kernel_rfl) (fun _ _ _ h => h) (Or.inl ⟨by rfl, ?_⟩) (by assumption) ?_; rotate_left; (focus (intro w hSw; (try dsimp only at hSw); go_simp; (try with_reducible rfl); done)); (try simp only [put_rules]))
  (refine wpAnyH_take (i := 7) (v := ?_) rfl (by kernel_rfl) (by kernel_rfl) (by kernel_rfl) (fun _ _ _ h => h) (Or.inl ⟨by rfl, ?_⟩) (by assumption) ?_; rotate_left; (focus (intro w hSw; (try dsimp only at hSw); go_simp; (try with_reducible rfl); done)); (try simp only [put_rules]))
  (refine wpAnyH_take (i := 8) (v := ?_) rfl (by kernel_rfl) (by kernel_rfl) (by kernel_rfl) (fun _ _ _ h => h) (Or.inl ⟨by rfl, ?_⟩) (by assumption) ?_; rotate_left; (focus (intro w hSw; (try dsimp only at hSw); go_simp; (try with_reducible rfl); done)); (try simp only [put_rules]))
  (refine wpAnyH_take (i := 9) (v := ?_) rfl (by kernel_rfl) (by kernel_rfl) (by kernel_rfl) (fun _ _ _ h => h) (Or.inl ⟨by rfl, ?_⟩) (by assumption) ?_; rotate_left; (focus (intro w hSw; (try dsimp only at hSw); go_simp; (try with_reducible rfl); done)); (try simp only [put_rules]))
  (refine wpAnyH_take (i := 10) (v := ?_) rfl (by kernel_rfl) (by kernel_rfl) (by kernel_rfl) (fun _ _ _ h => h) (Or.inl ⟨by rfl, ?_⟩) (by assumption) ?_; rotate_left; (focus (intro w hSw; (try dsimp only at hSw); go_simp; (try with_reducible rfl); done)); (try simp only [put_rules]))
  (refine wpAnyH_take (i := 11) (v := ?_) rfl (by kernel_rfl) (by kernel_rfl) (by kernel_rfl) (fun _ _ _ h => h) (Or.inl ⟨by rfl, ?_⟩) (by assumption) ?_; rotate_left; (focus (intro w hSw; (try dsimp only at hSw); go_simp; (try with_reducible rfl); done)); (try simp only [put_rules]))
  (refine wpAnyH_done (by kernel_rfl) ?_ _)
  cases q
  · have hs := hn.out rfl
    go_wp2_with fail
    go_ret
    exact ⟨_, rfl, hs, rfl⟩
  · have hs := hyes.out rfl
    go_wp2_with fail
    go_ret
    exact ⟨_, rfl, hs, rfl⟩

/-- The round of a clause, or -1. -/
def RoundIs (F0 : List (List Int)) (width : Int) (c : List Int) (z : Int) : Prop := (z = -1 ∧ ¬ ∃ r, inR F0 width r c) ∨ ∃ k : Nat, z = k ∧ rankR F0 width k c
theorem round_is {F0 L : List (List Int)} {n width : Int} {R : List Int} {c : List Int} {z : Int} (h : Clo F0 width L R) (hF : GoodF n F0) (hg : Good c) (hs : Stands (L.map maskN) R (maskN c) z) : RoundIs F0 width c z := by
  have hgL : ∀ x ∈ L, Good x := fun x hx => (h.good hF x hx).1
  rcases hs with ⟨hn, rfl⟩ | ⟨i, hi, e, rfl⟩
  · exact .inl ⟨rfl, fun hin => hn ((mask_mem hgL hg).2 (h.mem.2 hin))⟩
  · rw [List.length_map] at hi
    rw [List.getElem_map] at e
    obtain ⟨k, hk, hr⟩ := h.rank hi
    rw [maskN_inj (hgL _ (List.getElem_mem hi)) hg e] at hr
    exact .inr ⟨k, by rw [List.getD_eq_getElem?_getD, hk]; rfl, hr⟩
theorem RoundIs.pos {F0 : List (List Int)} {width z : Int} {c : List Int} (h : RoundIs F0 width c z) : 0 ≤ z ↔ ∃ r, inR F0 width r c := by
  rcases h with ⟨rfl, hn⟩ | ⟨k, rfl, hr⟩
  · exact ⟨fun h => absurd h (by decide), fun h => absurd h hn⟩
  · exact ⟨fun _ => ⟨k, hr.1⟩, fun _ => by omega⟩

set_option maxRecDepth 100000 in
set_option maxHeartbeats 2000000 in
theorem narrow_any (n width : Int) (v : Value) (F0 : List (List Int)) (F : List Nat) (w : World) (hx : (Ty.slice Ty.int).row false w v F0 F) (hF : GoodF n F0) (hw0 : 0 ≤ width) (hw6 : width ≤ 6) (hl : F0.length ≤ 100000) :
    Calls Try.prog 39 #[.agg #[.int .i64 n, v], .int .i64 width] w fun e w' => ∃ q, e = .returned (.bool q) ∧ (q = true ↔ ∃ r, inR F0 width r []) ∧ Below w.heap.size w w' := by
  obtain ⟨a, cp, rfl, _, _⟩ := Ty.row_len hx
  have S0 := (Sp.start w).alloc_box #[.int .i64 n, .slice a F0.length cp] 29
  have c0 := S0.cell (i := 0) rfl (o := 0) rfl
  have c1 := S0.cell (i := 0) rfl (o := 1) rfl
  replace S0 := Lib.hid S0
  have hxr := Lib.hid hx
  replace hF := Lib.hid hF
  clear hx
  go_enter Try.func39, Try.ntmps39
  go_wp2_with fail
  refine (closureOf_any n width _ F0 F _ (Ty.row_below hxr.out S0.out.below (Ty.row_lt hxr.out)) hF.out hw0 hw6 hl).mono ?_
  rintro e w1 ⟨bx, mb, L, R, rfl, hXS, hC⟩
  have hB := hXS.below
  replace hXS := Lib.hid hXS
  replace hC := Lib.hid hC
  go_wp2_with fail
  refine (roundOf_any hXS.out _ [] [] (Ty.row_nil _ _ _ _ _ (by decide)) Good.nil).mono ?_
  rintro e w2 ⟨z, rfl, hz, rfl⟩
  have hR := (round_is hC.out hF.out Good.nil hz).pos
  have hB2 := bdr (btr S0.out.below hB)
  go_wp2_with fail
  go_ret
  exact ⟨_, rfl, by rw [decide_eq_true_eq]; exact hR, hB2⟩
end Go.Proofs.Ytebpknekaljgnaa
