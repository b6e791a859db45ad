/- Lemmas and contracts for a law, put together out of several texts: CoJ CoL CoP CoQ CoR. -/
import Derived.Test.YtmikconjhmhekaaMg8
import Derived.Deep.DeepCutAuto
import Derived.Laws.EntriesVeiled
/- Contracts: cores and minimal cores, on both sides. Printed by gen_coj.py. -/
namespace Go.Proofs.Ytmikconjhmhekaa
open Go.RowKit

def natL (l : List Int) : List Nat := l.map Int.toNat
theorem natL_ofN (is : List Nat) : natL (ofN is) = is := by
  unfold natL ofN
  rw [List.map_map]
  have : (Int.toNat ∘ fun (i : Nat) => (i : Int)) = id := by funext i; simp
  rw [this, List.map_id]
theorem ris_natL {m : Nat} {l : List Int} (h : risB m l = true) : l = ofN (natL l) ∧ AscN m (natL l) := by
  obtain ⟨is, rfl, h2⟩ := ris_nat h
  rw [natL_ofN]
  exact ⟨rfl, h2⟩
/-- No index is superfluous. -/
def minB (n : Nat) (xss : List (List Int)) (is : List Nat) : Bool := (List.range is.length).all fun k => !coreB n xss (is.eraseIdx k)
theorem min_no {n : Nat} {xss : List (List Int)} {is : List Nat} {k : Nat} (hk : k < is.length) (h : coreB n xss (is.eraseIdx k) = true) : minB n xss is = false := by
  unfold minB
  rw [List.all_eq_false]
  exact ⟨k, List.mem_range.2 hk, by rw [h]; decide⟩
theorem min_next {n : Nat} {xss : List (List Int)} {is : List Nat} {k : Nat} (h0 : ((List.range k).all fun k => !coreB n xss (is.eraseIdx k)) = true) (h : coreB n xss (is.eraseIdx k) = false) : ((List.range (k + 1)).all fun k => !coreB n xss (is.eraseIdx k)) = true := by
  rw [List.range_succ, List.all_append, h0]
  simp [h]
theorem ofN_eraseIdx (is : List Nat) (k : Nat) : (ofN is).eraseIdx k = ofN (is.eraseIdx k) := by
  unfold ofN
  rw [List.eraseIdx_eq_take_drop_succ, List.eraseIdx_eq_take_drop_succ, List.map_append, List.map_take, List.map_drop]
theorem AscN.erase {m : Nat} {is : List Nat} (h : AscN m is) (k : Nat) : AscN m (is.eraseIdx k) := h.sub (List.eraseIdx_sublist _ _)

set_option maxRecDepth 100000 in
set_option maxHeartbeats 4000000 in
theorem l5Takes_any (vars : Int) (v : Value) (xss : List (List Int)) (l : List Int) (D : Option Addr) (dc : Nat) (F G : List Nat) (w : World) (hx : (Ty.slice Ty.int).row false w v xss F) (hy : Ty.int.row false w (.slice D l.length dc) l G) (hl : l.length ≤ 100000) :
    Calls Try.prog 121 #[.agg #[.int .i64 vars, v], .slice D l.length dc] w fun e w' => e = .returned (.bool (goodB vars xss && risB xss.length l)) ∧ Below w.heap.size w w' := by
  obtain ⟨A, cap, rfl, hI⟩ := cls_row hx
  obtain ⟨D', dc', e', hT⟩ := ints_row hy
  cases e'
  have S0 := (Sp.start w).alloc_box #[.int .i64 vars, .slice A xss.length cap] 26
  have hcall := Lib.hid (l2Good_any vars _ xss F _ (Ty.row_below hx S0.below (Ty.row_lt hx)))
  have hris := Lib.hid (fun W (h : Below w.heap.size w W) => l1Rising_any D dc l (xss.length : Int) W (hT.grow h) (by omega))
  replace S0 := Lib.hid S0
  have c0 := S0.out.cell (i := 0) rfl (o := 0) rfl
  have c1 := S0.out.cell (i := 0) rfl (o := 1) rfl
  have hg60 := fun h => (good_cnf (vars := vars) (xss := xss) h).2.1
  generalize risB xss.length l = q2 at *
  clear hx hy hI hT
  cases h1 : goodB vars xss
  · rw [h1] at hcall
    clear hg60
    go_enter Try.func121, Try.ntmps121
    go_wp2_with fail
    refine hcall.out.mono ?_
    rintro e w1 ⟨rfl, hb1⟩
    have hB := Lib.hid (S0.out.grow hb1).below
    clear hcall S0 c0 c1 hb1
    go_wp2_with fail
    go_ret
    exact ⟨rfl, hB.out⟩
  · rw [h1] at hcall
    have hl60 := hg60 h1
    obtain ⟨hi, hhi⟩ : ∃ hi : Int, (xss.length : Int) - 1 = hi := ⟨_, rfl⟩
    have hw0 : IntKind.i64.wrap ((xss.length : Int) - 1) = hi := by rw [IntWalk.i64_in _ (by omega)]; exact hhi
    rw [hhi] at hris
    replace hhi := Lib.hid hhi
    clear hg60
    go_enter Try.func121, Try.ntmps121
    go_wp2_with fail
    refine hcall.out.mono ?_
    rintro e w1 ⟨rfl, hb1⟩
    have S1 := Lib.hid (S0.out.grow hb1)
    clear hcall S0 c0 c1 hb1
    have c1 := S1.out.cell (i := 0) rfl (o := 1) rfl
    go_wp2_with fail
    refine (hris.out _ S1.out.below).mono ?_
    rintro e w2 ⟨rfl, hb2⟩
    have hB := Lib.hid (S1.out.grow hb2).below
    clear hris S1 c1 hb2
    go_wp2_with fail
    go_ret
    exact ⟨rfl, hB.out⟩

set_option maxRecDepth 100000 in
set_option maxHeartbeats 8000000 in
theorem implIsCore_any (vars : Int) (v : Value) (xss : List (List Int)) (l : List Int) (D : Option Addr) (dc : Nat) (F G : List Nat) (w : World) (hx : (Ty.slice Ty.int).row false w v xss F) (hy : Ty.int.row false w (.slice D l.length dc) l G) (hl : l.length ≤ 100000) :
    Calls Try.prog 32 #[.agg #[.int .i64 vars, v], .slice D l.length dc] w fun e w' => e = .returned (.tuple #[.bool (goodB vars xss && risB xss.length l && coreB vars.toNat xss (natL l)), .bool (goodB vars xss && risB xss.length l)]) ∧ Below w.heap.size w w' := by
  obtain ⟨A, cap, rfl, hI⟩ := cls_row hx
  obtain ⟨D', dc', e', hT⟩ := ints_row hy
  cases e'
  obtain ⟨_, _, e', hdc, -⟩ := Ty.row_len hy
  cases e'
  have S0 := (Sp.start w).alloc_box #[.int .i64 vars, .slice A xss.length cap] 26
  have hcall := Lib.hid (implIsCnf_any vars _ xss F _ (Ty.row_below hx S0.below (Ty.row_lt hx)))
  have hris := fun W (h : Below w.heap.size w W) (hm : xss.length ≤ 1000000) => indicesOk_any vars A xss.length cap hm D dc l W (hT.grow h) (by omega)
  replace S0 := Lib.hid S0
  have c0 := S0.out.cell (i := 0) rfl (o := 0) rfl
  have c1 := S0.out.cell (i := 0) rfl (o := 1) rfl
  clear hx
  cases h1 : goodB vars xss
  · rw [h1] at hcall
    clear hris hy hI hT
    go_enter Try.func32, Try.ntmps32
    go_wp2_with fail
    refine hcall.out.mono ?_
    rintro e w1 ⟨rfl, hb1⟩
    have hB := Lib.hid (S0.out.grow hb1).below
    clear hcall S0 c0 c1 hb1
    go_wp2_with fail
    go_ret2
    exact ⟨rfl, hB.out⟩
  have hg := good_cnf h1
  rw [h1] at hcall
  cases h2 : risB xss.length l
  · have hris2 := Lib.hid (fun W h => hris W h (by omega))
    rw [h2] at hris2
    clear hris hy hI hT hg
    go_enter Try.func32, Try.ntmps32
    go_wp2_with fail
    refine hcall.out.mono ?_
    rintro e w1 ⟨rfl, hb1⟩
    have S1 := Lib.hid (S0.out.grow hb1)
    clear hcall S0 c0 c1 hb1
    have c0 := S1.out.cell (i := 0) rfl (o := 0) rfl
    have c1 := S1.out.cell (i := 0) rfl (o := 1) rfl
    go_wp2_with fail
    refine (hris2.out _ S1.out.below).mono ?_
    rintro e w2 ⟨rfl, hb2⟩
    have hB := Lib.hid (S1.out.grow hb2).below
    clear hris2 S1 c0 c1 hb2
    go_wp2_with fail
    go_ret2
    exact ⟨rfl, hB.out⟩
  obtain ⟨hln, has⟩ := ris_natL h2
  obtain ⟨is, his⟩ : ∃ is, natL l = is := ⟨_, rfl⟩
  rw [his] at hln has ⊢
  subst hln
  obtain ⟨n, rfl⟩ := Int.eq_ofNat_of_zero_le hg.1.1
  rw [show (n : Int).toNat = n by omega]
  have hn : n ≤ 12 := by omega
  rw [ofN_len] at hl hdc ⊢
  have hil := asc_len has
  have hic := fun is (hi : AscN xss.length is) E ec W (h : Below w.heap.size w W) (hy : IntsAt W E (ofN is)) => isCore_any n hn xss hg.2.2.2 is hi.2 (by have := asc_len hi; have := hg.2.1; omega) A E cap ec W (hI.grow h) hy
  have hris2 := Lib.hid (fun W h => hris W h (by have := hg.2.1; omega))
  rw [h2] at hris2
  rw [ofN_len] at hris2
  have hT2 := Lib.hid hT
  simp only [h1, h2, Bool.true_and]
  have hcc := Lib.hid (fun W h => hic is has D dc W h (hT2.out.grow h))
  generalize coreB n xss is = q at *
  clear hy hI hT hg hic has hT2 hil hris
  go_enter Try.func32, Try.ntmps32
  go_wp2_with fail
  refine hcall.out.mono ?_
  rintro e w1 ⟨rfl, hb1⟩
  have S1 := Lib.hid (S0.out.grow hb1)
  clear hcall S0 c0 c1 hb1
  have c0 := S1.out.cell (i := 0) rfl (o := 0) rfl
  have c1 := S1.out.cell (i := 0) rfl (o := 1) rfl
  go_wp2_with fail
  refine (hris2.out _ S1.out.below).mono ?_
  rintro e w2 ⟨rfl, hb2⟩
  have S2 := Lib.hid (S1.out.grow hb2)
  clear hris2 S1 c0 c1 hb2
  have c0 := S2.out.cell (i := 0) rfl (o := 0) rfl
  have c1 := S2.out.cell (i := 0) rfl (o := 1) rfl
  go_wp2_with fail
  refine (hcc.out _ S2.out.below).mono ?_
  rintro e w3 ⟨rfl, hb3⟩
  have hB := Lib.hid (S2.out.grow hb3).below
  clear hcc S2 c0 c1 hb3
  go_wp2_with fail
  go_ret2
  exact ⟨rfl, hB.out⟩

set_option maxRecDepth 100000 in
set_option maxHeartbeats 8000000 in
theorem implIsMinimal_any (vars : Int) (v : Value) (xss : List (List Int)) (l : List Int) (D : Option Addr) (dc : Nat) (F : List Nat) (w : World) (hx : (Ty.slice Ty.int).row false w v xss F) (hT : IntsAt w D l) (hdc : l.length ≤ dc) (hl : l.length ≤ 100000) :
    Calls Try.prog 30 #[.agg #[.int .i64 vars, v], .slice D l.length dc] w fun e w' => e = .returned (.tuple #[.bool (goodB vars xss && risB xss.length l && (coreB vars.toNat xss (natL l) && minB vars.toNat xss (natL l))), .bool (goodB vars xss && risB xss.length l)]) ∧ Below w.heap.size w w' := by
  obtain ⟨A, cap, rfl, hI⟩ := cls_row hx
  have S0 := (Sp.start w).alloc_box #[.int .i64 vars, .slice A xss.length cap] 26
  have hcall := Lib.hid (implIsCnf_any vars _ xss F _ (Ty.row_below hx S0.below (Ty.row_lt hx)))
  have hris := fun W (h : Below w.heap.size w W) (hm : xss.length ≤ 1000000) => indicesOk_any vars A xss.length cap hm D dc l W (hT.grow h) (by omega)
  replace S0 := Lib.hid S0
  have c0 := S0.out.cell (i := 0) rfl (o := 0) rfl
  have c1 := S0.out.cell (i := 0) rfl (o := 1) rfl
  clear hx
  cases h1 : goodB vars xss
  · rw [h1] at hcall
    clear hris hI hT
    go_enter Try.func30, Try.ntmps30
    go_wp2_with fail
    refine hcall.out.mono ?_
    rintro e w1 ⟨rfl, hb1⟩
    have hB := Lib.hid (S0.out.grow hb1).below
    clear hcall S0 c0 c1 hb1
    go_wp2_with fail
    go_ret2
    exact ⟨rfl, hB.out⟩
  have hg := good_cnf h1
  rw [h1] at hcall
  cases h2 : risB xss.length l
  · have hris2 := Lib.hid (fun W h => hris W h (by omega))
    rw [h2] at hris2
    clear hris hI hT hg
    go_enter Try.func30, Try.ntmps30
    go_wp2_with fail
    refine hcall.out.mono ?_
    rintro e w1 ⟨rfl, hb1⟩
    have S1 := Lib.hid (S0.out.grow hb1)
    clear hcall S0 c0 c1 hb1
    have c0 := S1.out.cell (i := 0) rfl (o := 0) rfl
    have c1 := S1.out.cell (i := 0) rfl (o := 1) rfl
    go_wp2_with fail
    refine (hris2.out _ S1.out.below).mono ?_
    rintro e w2 ⟨rfl, hb2⟩
    have hB := Lib.hid (S1.out.grow hb2).below
    clear hris2 S1 c0 c1 hb2
    go_wp2_with fail
    go_ret2
    exact ⟨rfl, hB.out⟩
  obtain ⟨hln, has⟩ := ris_natL h2
  obtain ⟨is, his⟩ : ∃ is, natL l = is := ⟨_, rfl⟩
  rw [his] at hln has ⊢
  subst hln
  obtain ⟨n, rfl⟩ := Int.eq_ofNat_of_zero_le hg.1.1
  rw [show (n : Int).toNat = n by omega]
  have hn : n ≤ 12 := by omega
  rw [ofN_len] at hl hdc ⊢
  have hil := asc_len has
  have hic := fun is (hi : AscN xss.length is) E ec W (h : Below w.heap.size w W) (hy : IntsAt W E (ofN is)) => isCore_any n hn xss hg.2.2.2 is hi.2 (by have := asc_len hi; have := hg.2.1; omega) A E cap ec W (hI.grow h) hy
  have hris2 := Lib.hid (fun W h => hris W h (by have := hg.2.1; omega))
  rw [h2] at hris2
  rw [ofN_len] at hris2
  have hT2 := Lib.hid hT
  simp only [h1, h2, Bool.true_and]
  have hcc := Lib.hid (fun W h => hic is has D dc W h (hT2.out.grow h))
  have hwo := Lib.hid (fun k (hk : k < is.length) W (h : Below w.heap.size w W) => withoutI_any D is.length dc k (ofN is) W (hT2.out.grow h) (ofN_len is) (by omega) hk)
  have hce := Lib.hid (fun k E ec W (h : Below w.heap.size w W) (hy : IntsAt W E (ofN (is.eraseIdx k))) => hic (is.eraseIdx k) (has.erase k) E ec W h hy)
  have hell := Lib.hid (fun k (hk : k < is.length) => List.length_eraseIdx_of_lt hk)
  have heI := Lib.hid (fun k => ofN_ok (m := xss.length) (by have := hg.2.1; omega) (has.erase k))
  have hno := Lib.hid (fun k (hk : k < is.length) h => min_no (n := n) (xss := xss) hk h)
  have hnx := Lib.hid (fun k h0 h => min_next (n := n) (xss := xss) (is := is) (k := k) h0 h)
  have hdef : Hid (minB n xss is = (List.range is.length).all fun k => !coreB n xss (is.eraseIdx k)) := rfl
  have hl3 : is.length ≤ 100000 := hl
  clear hI hT hg hic has hT2 hris
  obtain ⟨z, hz⟩ : ∃ z, minB n xss is = z := ⟨_, rfl⟩
  rw [hz]
  replace hz := Lib.hid hz
  cases hq : coreB n xss is
  · rw [hq] at hcc
    clear hwo hce hell heI hno hnx hdef
    go_enter Try.func30, Try.ntmps30
    go_wp2_with fail
    refine hcall.out.mono ?_
    rintro e w1 ⟨rfl, hb1⟩
    have S1 := Lib.hid (S0.out.grow hb1)
    clear hcall S0 c0 c1 hb1
    have c0 := S1.out.cell (i := 0) rfl (o := 0) rfl
    have c1 := S1.out.cell (i := 0) rfl (o := 1) rfl
    go_wp2_with fail
    refine (hris2.out _ S1.out.below).mono ?_
    rintro e w2 ⟨rfl, hb2⟩
    have S2 := Lib.hid (S1.out.grow hb2)
    clear hris2 S1 c0 c1 hb2
    have c0 := S2.out.cell (i := 0) rfl (o := 0) rfl
    have c1 := S2.out.cell (i := 0) rfl (o := 1) rfl
    go_wp2_with fail
    refine (hcc.out _ S2.out.below).mono ?_
    rintro e w3 ⟨rfl, hb3⟩
    have hB := Lib.hid (S2.out.grow hb3).below
    clear hcc S2 c0 c1 hb3
    go_wp2_with fail
    go_ret2
    exact ⟨rfl, hB.out⟩
  · rw [hq] at hcc
    rw [Bool.true_and]
    go_enter Try.func30, Try.ntmps30
    go_wp2_with fail
    refine hcall.out.mono ?_
    rintro e w1 ⟨rfl, hb1⟩
    have S1 := Lib.hid (S0.out.grow hb1)
    clear hcall S0 c0 c1 hb1
    have c0 := S1.out.cell (i := 0) rfl (o := 0) rfl
    have c1 := S1.out.cell (i := 0) rfl (o := 1) rfl
    go_wp2_with fail
    refine (hris2.out _ S1.out.below).mono ?_
    rintro e w2 ⟨rfl, hb2⟩
    have S2 := Lib.hid (S1.out.grow hb2)
    clear hris2 S1 c0 c1 hb2
    have c0 := S2.out.cell (i := 0) rfl (o := 0) rfl
    have c1 := S2.out.cell (i := 0) rfl (o := 1) rfl
    go_wp2_with fail
    refine (hcc.out _ S2.out.below).mono ?_
    rintro e w3 ⟨rfl, hb3⟩
    have S3 := Lib.hid (S2.out.grow hb3)
    clear hcc S2 c0 c1 hb3
    go_wp2_with fail
    go_loopw [6, 22] (fun _ vi wr => ∃ k : Nat, k ≤ is.length ∧ vi = .int .i64 k ∧ Hid (((List.range k).all fun k => !coreB n xss (is.eraseIdx k)) = true) ∧ Hid (Sp w wr [Box w.heap.size 26 #[.int .i64 n, .slice A xss.length cap]])) (fun _ vi _ => is.length - (intOf vi).toNat)
    case atStart => exact ⟨0, Nat.zero_le _, rfl, rfl, S3⟩
    case round =>
      obtain ⟨k, hk, rfl, hR, HS⟩ := hrel
      clear S3
      by_cases hlt : k < is.length
      · have c0 := HS.out.cell (i := 0) rfl (o := 0) rfl
        have c1 := HS.out.cell (i := 0) rfl (o := 1) rfl
        have S4 := Lib.hid HS.out.drew
        have hw4 := hwo.out k hlt _ S4.out.below
        rw [ofN_eraseIdx] at hw4
        replace hw4 := Lib.hid hw4
        have hno2 := Lib.hid (hno.out k hlt)
        have hnx2 := Lib.hid (hnx.out k hR.out)
        have hel := hell.out k hlt
        go_wp2_with fail
        refine wp_region_held_lit (S := (fun w' => w'.cell? ⟨w.heap.size, 0, none⟩ = some (.int .i64 n) ∧ w'.cell? ⟨w.heap.size, 1, none⟩ = some (.slice A xss.length cap))) 5 [false, false, false, false, false] (by kernel_rfl) (by kernel_rfl) (by kernel_rfl) ?_ ?_
        · exact ⟨c0, c1⟩
        intro hSc
        (refine wpAnyH_take (i := 0) (v := ?_) rfl (by kernel_rfl) (by kernel_rfl) (by kernel_rfl) (fun _ _ _ h => h) (Or.inl ⟨by rfl, ?_⟩) (by assumption) ?_; rotate_left; (focus (intro w hSw; (try dsimp only at hSw); go_simp; (try with_reducible rfl); done)); (try simp only [put_rules]))
        (refine wpAnyH_take (i := 1) (v := ?_) rfl (by kernel_rfl) (by kernel_rfl) (by kernel_rfl) (fun _ _ _ h => h) (Or.inl ⟨by rfl, ?_⟩) (by assumption) ?_; rotate_left; (focus (intro w hSw; (try dsimp only at hSw); go_simp; (try with_reducible rfl); done)); (try simp only [put_rules]))
        (refine wpAnyH_take (i := 2) (v := ?_) rfl (by kernel_rfl) (by kernel_rfl) (by kernel_rfl) (fun _ _ _ h => h) (Or.inl ⟨by rfl, ?_⟩) (by assumption) ?_; rotate_left; (focus (intro w hSw; (try dsimp only at hSw); go_simp; (try with_reducible rfl); done)); (try simp only [put_rules]))
        (refine wpAnyH_ready (rs := [3]) (by kernel_rfl) (by simp) ?_; refine AllReadyH.cons rfl (fun K hK => ?_) AllReadyH.nil)
        go_simp
        go_at_call 111
        refine hw4.out.mono ?_
        rintro e w4 ⟨E, ec, rfl, T⟩
        have S5 := S4.out.seq T
        have hown := S5.own (i := 0) rfl
        have hol : (ofN (is.eraseIdx k)).length = is.length - 1 := by rw [ofN_len, hel]
        rw [← hol] at hown
        obtain ⟨B', c', e1, hT5⟩ := ints_own hown (heI.out k)
        rw [hol] at e1
        simp only [Value.slice.injEq] at e1
        obtain ⟨rfl, -, rfl⟩ := e1
        have hcc := hce.out k E ec w4 S5.below hT5
        rw [hel] at hcc
        replace hcc := Lib.hid hcc
        replace S5 := Lib.hid S5
        obtain ⟨q, hqq⟩ : ∃ q, coreB n xss (is.eraseIdx k) = q := ⟨_, rfl⟩
        rw [hqq] at hcc
        replace hqq := Lib.hid hqq
        replace hel := Lib.hid hel
        clear hw4 S4 HS T hown hol hT5 c0 c1
        go_wp2_with fail
        refine hK.out _ _ ⟨S5.out.cell (i := 1) rfl (o := 0) rfl, S5.out.cell (i := 1) rfl (o := 1) rfl⟩ (fun hS2 => ?_)
        clear hK hSc
        (try simp only [put_rules])
        (refine wpAnyH_ready (rs := [4]) (by kernel_rfl) (by simp) ?_; refine AllReadyH.cons rfl (fun K hK => ?_) AllReadyH.nil)
        go_simp
        go_at_call 113
        refine hcc.out.mono ?_
        rintro e w5 ⟨rfl, hb5⟩
        have S6 := Lib.hid (S5.out.grow hb5)
        clear hcc S5 hb5
        go_wp2_with fail
        refine hK.out _ _ ⟨S6.out.cell (i := 1) rfl (o := 0) rfl, S6.out.cell (i := 1) rfl (o := 1) rfl⟩ (fun hS3 => ?_)
        clear hK hS2
        (try simp only [put_rules])
        (refine wpAnyH_done (by kernel_rfl) ?_ _)
        cases q
        · have hR2 := Lib.hid (hnx2.out hqq.out)
          have S7 := Lib.hid S6.out.tail
          clear S6 hno2 hnx2 hS3
          go_wp2_with fail
          go_roundw
          case rel => exact ⟨k + 1, by omega, by go_num, hR2, S7⟩
          case measure => simp [intOf]; omega
        · obtain rfl : z = false := by rw [← hz.out]; exact hno2.out hqq.out
          have hB := Lib.hid S6.out.below
          clear S6 hno2 hnx2 hS3 hz
          go_wp2_with fail
          go_ret2
          exact ⟨rfl, hB.out⟩
      · obtain rfl : k = is.length := by omega
        obtain rfl : z = true := by rw [← hz.out]; exact hdef.out.trans hR.out
        have hB := Lib.hid HS.out.below
        clear HS hz
        go_wp2_with fail
        go_ret2
        exact ⟨rfl, hB.out⟩

set_option maxRecDepth 100000 in
set_option maxHeartbeats 8000000 in
theorem specIsCore_any (vars : Int) (v : Value) (xss : List (List Int)) (l : List Int) (D : Option Addr) (dc : Nat) (F G : List Nat) (w : World) (hx : (Ty.slice Ty.int).row false w v xss F) (hy : Ty.int.row false w (.slice D l.length dc) l G) (hl : l.length ≤ 100000) :
    Calls Try.prog 33 #[.agg #[.int .i64 vars, v], .slice D l.length dc] w fun e w' => e = .returned (.tuple #[.bool (goodB vars xss && risB xss.length l && coreB vars.toNat xss (natL l)), .bool (goodB vars xss && risB xss.length l)]) ∧ Below w.heap.size w w' := by
  obtain ⟨A, cap, rfl, hI⟩ := cls_row hx
  obtain ⟨D', dc', e', hT⟩ := ints_row hy
  cases e'
  obtain ⟨_, _, e', hdc, -⟩ := Ty.row_len hy
  cases e'
  have S0 := (Sp.start w).alloc_box #[.int .i64 vars, .slice A xss.length cap] 26
  have hcall := Lib.hid (l5Takes_any vars _ xss l D dc F G _ (Ty.row_below hx S0.below (Ty.row_lt hx)) (Ty.row_below hy S0.below (Ty.row_lt hy)) hl)
  replace S0 := Lib.hid S0
  have c0 := S0.out.cell (i := 0) rfl (o := 0) rfl
  have c1 := S0.out.cell (i := 0) rfl (o := 1) rfl
  clear hx
  cases h3 : goodB vars xss && risB xss.length l
  · rw [h3] at hcall
    clear hy hI hT
    go_enter Try.func33, Try.ntmps33
    go_wp2_with fail
    refine hcall.out.mono ?_
    rintro e w1 ⟨rfl, hb1⟩
    have hB := Lib.hid (S0.out.grow hb1).below
    clear hcall S0 c0 c1 hb1
    go_wp2_with fail
    go_ret2
    exact ⟨rfl, hB.out⟩
  rw [h3] at hcall
  obtain ⟨h1, h2⟩ := Bool.and_eq_true_iff.1 h3
  have hg := good_cnf h1
  obtain ⟨hln, has⟩ := ris_natL h2
  obtain ⟨is, his⟩ : ∃ is, natL l = is := ⟨_, rfl⟩
  rw [his] at hln has ⊢
  subst hln
  obtain ⟨n, rfl⟩ := Int.eq_ofNat_of_zero_le hg.1.1
  rw [show (n : Int).toNat = n by omega]
  have hn : n ≤ 12 := by omega
  rw [ofN_len] at hl hdc hcall ⊢
  have hil := asc_len has
  have hic := fun is (hi : AscN xss.length is) E ec W (h : Below w.heap.size w W) (hy : IntsAt W E (ofN is)) => l5Core_any n hn xss hg.2.2.2 is hi.2 (by have := asc_len hi; have := hg.2.1; omega) A E cap ec W (hI.grow h) hy
  have hT2 := Lib.hid hT
  simp only [Bool.true_and]
  have hcc := Lib.hid (fun W h => hic is has D dc W h (hT2.out.grow h))
  generalize coreB n xss is = q at *
  clear hy hI hT hg hic has hT2 hil
  go_enter Try.func33, Try.ntmps33
  go_wp2_with fail
  refine hcall.out.mono ?_
  rintro e w1 ⟨rfl, hb1⟩
  have S1 := Lib.hid (S0.out.grow hb1)
  clear hcall S0 c0 c1 hb1
  have c0 := S1.out.cell (i := 0) rfl (o := 0) rfl
  have c1 := S1.out.cell (i := 0) rfl (o := 1) rfl
  have S2 := S1
  clear S1
  go_wp2_with fail
  refine (hcc.out _ S2.out.below).mono ?_
  rintro e w3 ⟨rfl, hb3⟩
  have hB := Lib.hid (S2.out.grow hb3).below
  clear hcc S2 c0 c1 hb3
  go_wp2_with fail
  go_ret2
  exact ⟨rfl, hB.out⟩

set_option maxRecDepth 100000 in
set_option maxHeartbeats 8000000 in
theorem specIsMinimal_any (vars : Int) (v : Value) (xss : List (List Int)) (l : List Int) (D : Option Addr) (dc : Nat) (F G : List Nat) (w : World) (hx : (Ty.slice Ty.int).row false w v xss F) (hy : Ty.int.row false w (.slice D l.length dc) l G) (hl : l.length ≤ 100000) :
    Calls Try.prog 34 #[.agg #[.int .i64 vars, v], .slice D l.length dc] w fun e w' => e = .returned (.tuple #[.bool (goodB vars xss && risB xss.length l && (coreB vars.toNat xss (natL l) && minB vars.toNat xss (natL l))), .bool (goodB vars xss && risB xss.length l)]) ∧ Below w.heap.size w w' := by
  obtain ⟨A, cap, rfl, hI⟩ := cls_row hx
  obtain ⟨D', dc', e', hT⟩ := ints_row hy
  cases e'
  obtain ⟨_, _, e', hdc, -⟩ := Ty.row_len hy
  cases e'
  have S0 := (Sp.start w).alloc_box #[.int .i64 vars, .slice A xss.length cap] 26
  have hcall := Lib.hid (l5Takes_any vars _ xss l D dc F G _ (Ty.row_below hx S0.below (Ty.row_lt hx)) (Ty.row_below hy S0.below (Ty.row_lt hy)) hl)
  replace S0 := Lib.hid S0
  have c0 := S0.out.cell (i := 0) rfl (o := 0) rfl
  have c1 := S0.out.cell (i := 0) rfl (o := 1) rfl
  clear hx
  cases h3 : goodB vars xss && risB xss.length l
  · rw [h3] at hcall
    clear hy hI hT
    go_enter Try.func34, Try.ntmps34
    go_wp2_with fail
    refine hcall.out.mono ?_
    rintro e w1 ⟨rfl, hb1⟩
    have hB := Lib.hid (S0.out.grow hb1).below
    clear hcall S0 c0 c1 hb1
    go_wp2_with fail
    go_ret2
    exact ⟨rfl, hB.out⟩
  rw [h3] at hcall
  obtain ⟨h1, h2⟩ := Bool.and_eq_true_iff.1 h3
  have hg := good_cnf h1
  obtain ⟨hln, has⟩ := ris_natL h2
  obtain ⟨is, his⟩ : ∃ is, natL l = is := ⟨_, rfl⟩
  rw [his] at hln has ⊢
  subst hln
  obtain ⟨n, rfl⟩ := Int.eq_ofNat_of_zero_le hg.1.1
  rw [show (n : Int).toNat = n by omega]
  have hn : n ≤ 12 := by omega
  rw [ofN_len] at hl hdc hcall ⊢
  have hil := asc_len has
  have hic := fun is (hi : AscN xss.length is) E ec W (h : Below w.heap.size w W) (hy : IntsAt W E (ofN is)) => l5Core_any n hn xss hg.2.2.2 is hi.2 (by have := asc_len hi; have := hg.2.1; omega) A E cap ec W (hI.grow h) hy
  have hT2 := Lib.hid hT
  simp only [Bool.true_and]
  have hcc := Lib.hid (fun W h => hic is has D dc W h (hT2.out.grow h))
  have hwo := Lib.hid (fun k (hk : k < is.length) W (h : Below w.heap.size w W) => l5Skip_any D is.length dc k (ofN is) W (hT2.out.grow h) (ofN_len is) (by omega) hk hdc)
  have hce := Lib.hid (fun k E ec W (h : Below w.heap.size w W) (hy : IntsAt W E (ofN (is.eraseIdx k))) => hic (is.eraseIdx k) (has.erase k) E ec W h hy)
  have hell := Lib.hid (fun k (hk : k < is.length) => List.length_eraseIdx_of_lt hk)
  have heI := Lib.hid (fun k => ofN_ok (m := xss.length) (by have := hg.2.1; omega) (has.erase k))
  have hno := Lib.hid (fun k (hk : k < is.length) h => min_no (n := n) (xss := xss) hk h)
  have hnx := Lib.hid (fun k h0 h => min_next (n := n) (xss := xss) (is := is) (k := k) h0 h)
  have hdef : Hid (minB n xss is = (List.range is.length).all fun k => !coreB n xss (is.eraseIdx k)) := rfl
  have hl3 : is.length ≤ 100000 := hl
  clear hy hI hT hg hic has hT2
  obtain ⟨z, hz⟩ : ∃ z, minB n xss is = z := ⟨_, rfl⟩
  rw [hz]
  replace hz := Lib.hid hz
  cases hq : coreB n xss is
  · rw [hq] at hcc
    clear hwo hce hell heI hno hnx hdef
    go_enter Try.func34, Try.ntmps34
    go_wp2_with fail
    refine hcall.out.mono ?_
    rintro e w1 ⟨rfl, hb1⟩
    have S1 := Lib.hid (S0.out.grow hb1)
    clear hcall S0 c0 c1 hb1
    have c0 := S1.out.cell (i := 0) rfl (o := 0) rfl
    have c1 := S1.out.cell (i := 0) rfl (o := 1) rfl
    have S2 := S1
    clear S1
    go_wp2_with fail
    refine (hcc.out _ S2.out.below).mono ?_
    rintro e w3 ⟨rfl, hb3⟩
    have hB := Lib.hid (S2.out.grow hb3).below
    clear hcc S2 c0 c1 hb3
    go_wp2_with fail
    go_ret2
    exact ⟨rfl, hB.out⟩
  · rw [hq] at hcc
    rw [Bool.true_and]
    go_enter Try.func34, Try.ntmps34
    go_wp2_with fail
    refine hcall.out.mono ?_
    rintro e w1 ⟨rfl, hb1⟩
    have S1 := Lib.hid (S0.out.grow hb1)
    clear hcall S0 c0 c1 hb1
    have c0 := S1.out.cell (i := 0) rfl (o := 0) rfl
    have c1 := S1.out.cell (i := 0) rfl (o := 1) rfl
    have S2 := S1
    clear S1
    go_wp2_with fail
    refine (hcc.out _ S2.out.below).mono ?_
    rintro e w3 ⟨rfl, hb3⟩
    have S3 := Lib.hid (S2.out.grow hb3)
    clear hcc S2 c0 c1 hb3
    go_wp2_with fail
    go_loopw [6] (fun vi wr => ∃ k : Nat, k ≤ is.length ∧ vi = .int .i64 k ∧ Hid (((List.range k).all fun k => !coreB n xss (is.eraseIdx k)) = true) ∧ Hid (Sp w wr [Box w.heap.size 26 #[.int .i64 n, .slice A xss.length cap]])) (fun vi _ => is.length - (intOf vi).toNat)
    case atStart => exact ⟨0, Nat.zero_le _, rfl, rfl, S3⟩
    case round =>
      obtain ⟨k, hk, rfl, hR, HS⟩ := hrel
      clear S3
      by_cases hlt : k < is.length
      · have c0 := HS.out.cell (i := 0) rfl (o := 0) rfl
        have c1 := HS.out.cell (i := 0) rfl (o := 1) rfl
        have S4 := Lib.hid HS.out.drew
        have hw4 := hwo.out k hlt _ S4.out.below
        rw [ofN_eraseIdx] at hw4
        replace hw4 := Lib.hid hw4
        have hno2 := Lib.hid (hno.out k hlt)
        have hnx2 := Lib.hid (hnx.out k hR.out)
        have hel := hell.out k hlt
        go_wp2_with fail
        refine wp_region_held_lit (S := (fun w' => w'.cell? ⟨w.heap.size, 0, none⟩ = some (.int .i64 n) ∧ w'.cell? ⟨w.heap.size, 1, none⟩ = some (.slice A xss.length cap))) 5 [false, false, false, false, false] (by kernel_rfl) (by kernel_rfl) (by kernel_rfl) ?_ ?_
        · exact ⟨c0, c1⟩
        intro hSc
        (refine wpAnyH_take (i := 0) (v := ?_) rfl (by kernel_rfl) (by kernel_rfl) (by kernel_rfl) (fun _ _ _ h => h) (Or.inl ⟨by rfl, ?_⟩) (by assumption) ?_; rotate_left; (focus (intro w hSw; (try dsimp only at hSw); go_simp; (try with_reducible rfl); done)); (try simp only [put_rules]))
        (refine wpAnyH_take (i := 1) (v := ?_) rfl (by kernel_rfl) (by kernel_rfl) (by kernel_rfl) (fun _ _ _ h => h) (Or.inl ⟨by rfl, ?_⟩) (by assumption) ?_; rotate_left; (focus (intro w hSw; (try dsimp only at hSw); go_simp; (try with_reducible rfl); done)); (try simp only [put_rules]))
        (refine wpAnyH_take (i := 2) (v := ?_) rfl (by kernel_rfl) (by kernel_rfl) (by kernel_rfl) (fun _ _ _ h => h) (Or.inl ⟨by rfl, ?_⟩) (by assumption) ?_; rotate_left; (focus (intro w hSw; (try dsimp only at hSw); go_simp; (try with_reducible rfl); done)); (try simp only [put_rules]))
        (refine wpAnyH_ready (rs := [3]) (by kernel_rfl) (by simp) ?_; refine AllReadyH.cons rfl (fun K hK => ?_) AllReadyH.nil)
        go_simp
        go_at_call 115
        refine hw4.out.mono ?_
        rintro e w4 ⟨E, ec, rfl, T⟩
        have S5 := S4.out.seq T
        have hown := S5.own (i := 0) rfl
        have hol : (ofN (is.eraseIdx k)).length = is.length - 1 := by rw [ofN_len, hel]
        rw [← hol] at hown
        obtain ⟨B', c', e1, hT5⟩ := ints_own hown (heI.out k)
        rw [hol] at e1
        simp only [Value.slice.injEq] at e1
        obtain ⟨rfl, -, rfl⟩ := e1
        have hcc := hce.out k E ec w4 S5.below hT5
        rw [hel] at hcc
        replace hcc := Lib.hid hcc
        replace S5 := Lib.hid S5
        obtain ⟨q, hqq⟩ : ∃ q, coreB n xss (is.eraseIdx k) = q := ⟨_, rfl⟩
        rw [hqq] at hcc
        replace hqq := Lib.hid hqq
        replace hel := Lib.hid hel
        clear hw4 S4 HS T hown hol hT5 c0 c1
        go_wp2_with fail
        refine hK.out _ _ ⟨S5.out.cell (i := 1) rfl (o := 0) rfl, S5.out.cell (i := 1) rfl (o := 1) rfl⟩ (fun hS2 => ?_)
        clear hK hSc
        (try simp only [put_rules])
        (refine wpAnyH_ready (rs := [4]) (by kernel_rfl) (by simp) ?_; refine AllReadyH.cons rfl (fun K hK => ?_) AllReadyH.nil)
        go_simp
        go_at_call 116
        refine hcc.out.mono ?_
        rintro e w5 ⟨rfl, hb5⟩
        have S6 := Lib.hid (S5.out.grow hb5)
        clear hcc S5 hb5
        go_wp2_with fail
        refine hK.out _ _ ⟨S6.out.cell (i := 1) rfl (o := 0) rfl, S6.out.cell (i := 1) rfl (o := 1) rfl⟩ (fun hS3 => ?_)
        clear hK hS2
        (try simp only [put_rules])
        (refine wpAnyH_done (by kernel_rfl) ?_ _)
        cases q
        · have hR2 := Lib.hid (hnx2.out hqq.out)
          have S7 := Lib.hid S6.out.tail
          clear S6 hno2 hnx2 hS3
          go_wp2_with fail
          go_roundw
          case rel => exact ⟨k + 1, by omega, by go_num, hR2, S7⟩
          case measure => simp [intOf]; omega
        · obtain rfl : z = false := by rw [← hz.out]; exact hno2.out hqq.out
          have hB := Lib.hid S6.out.below
          clear S6 hno2 hnx2 hS3 hz
          go_wp2_with fail
          go_ret2
          exact ⟨rfl, hB.out⟩
      · obtain rfl : k = is.length := by omega
        obtain rfl : z = true := by rw [← hz.out]; exact hdef.out.trans hR.out
        have hB := Lib.hid HS.out.below
        clear HS hz
        go_wp2_with fail
        go_ret2
        exact ⟨rfl, hB.out⟩

end Go.Proofs.Ytmikconjhmhekaa

/- Contract: the first core of a size, in the reference. Printed by gen_col.py. -/
namespace Go.Proofs.Ytmikconjhmhekaa
open Go.RowKit

/-- What is told of a search. -/
def ChP (w : World) (r : Option (List Nat)) (e : Ending) (w' : World) : Prop := ∃ (B : Option Addr) (c : Nat) (out : List Int), e = .returned (.tuple #[.slice B out.length c, .bool r.isSome]) ∧ (∀ is, r = some is → out = ofN is) ∧ (∀ x ∈ out, I64 x) ∧
  Sp w w' [Own 3 1 (.slice B out.length c) out.length (out.map (.int .i64))]
/-- Where a list goes on. -/
def nextA (l : List Nat) : Nat := match l.getLast? with
  | none => 0
  | some x => x + 1
theorem nextA_snoc (l : List Nat) (i : Nat) : nextA (l ++ [i]) = i + 1 := by simp [nextA]
theorem nextA_nil : nextA [] = 0 := rfl
theorem drew_size2 (w : World) : w.drew.heap.size = w.heap.size := rfl
theorem nextA_at {l : List Nat} (h : 0 < l.length) : nextA l = l[l.length - 1] + 1 := by
  unfold nextA
  rw [List.getLast?_eq_getElem?, List.getElem?_eq_getElem (by omega)]
theorem asc_snoc {m i : Nat} {l : List Nat} (h : AscN m l) (hi : nextA l ≤ i) (him : i < m) : AscN m (l ++ [i]) := by
  refine ⟨List.pairwise_append.2 ⟨h.1, by simp, fun x hx y hy => ?_⟩, fun x hx => ?_⟩
  · obtain rfl : y = i := by simpa using hy
    have hlen : 0 < l.length := List.length_pos_of_mem hx
    have hn := nextA_at hlen
    obtain ⟨j, hj, rfl⟩ := List.getElem_of_mem hx
    have hle : l[j] ≤ l[l.length - 1] := by
      rcases Nat.lt_or_ge j (l.length - 1) with hlt | hge
      · exact Nat.le_of_lt (List.pairwise_iff_getElem.1 h.1 j (l.length - 1) hj (by omega) hlt)
      · have : j = l.length - 1 := by omega
        simp only [this]; exact Nat.le_refl _
    omega
  · rcases List.mem_append.1 hx with hx | hx
    · exact h.2 x hx
    · obtain rfl : x = i := by simpa using hx
      exact him
theorem own_snoc_ints {w0 W : World} {ps : List Asn} {j : Nat} {A : Option Addr} {c i m : Nat} {l : List Nat} {bl : Nat} (hbl : l.length = bl) (hm : m ≤ 1000000) (h : Sp w0 W ps) (hi : ps[j]? = some (Own 3 1 (.slice A (bl + 1) c) (bl + 1) ((ofN l).map (.int .i64) ++ [.int .i64 (i : Int)]))) (ha : AscN m (l ++ [i])) : IntsAt W A (ofN (l ++ [i])) := by
  subst hbl
  have ho := h.own hi
  have e1 : (ofN l).map (Value.int .i64) ++ [.int .i64 (i : Int)] = (ofN (l ++ [i])).map (.int .i64) := by unfold ofN; simp
  have e2 : l.length + 1 = (ofN (l ++ [i])).length := by rw [ofN_len]; simp
  rw [e1, e2] at ho
  obtain ⟨A', c', e3, hT⟩ := ints_own ho (ofN_ok hm ha)
  simp only [Value.slice.injEq] at e3
  obtain ⟨rfl, -, rfl⟩ := e3
  exact hT

set_option maxRecDepth 100000 in
set_option maxHeartbeats 16000000 in
theorem l5Choose_any (n : Nat) (hn : n ≤ 12) (xss : List (List Int)) (hc : ∀ c ∈ xss, ClS c) (hm : xss.length ≤ 60) (A : Option Addr) (cap : Nat) : ∀ (k : Nat), k ≤ 1000 → ∀ (begun : List Nat) (D : Option Addr) (dc : Nat) (w : World), AscN xss.length begun → ClsAt w A xss → IntsAt w D (ofN begun) →
    Calls Try.prog 118 #[.agg #[.int .i64 n, .slice A xss.length cap], .slice D begun.length dc, .int .i64 k] w (ChP w (chF (coreB n xss) xss.length k begun (nextA begun))) := by
  obtain ⟨i0, hi, hz0, hz1, hz2⟩ := info_parts infoInt
  intro k
  induction k with
  | zero =>
    intro _ begun D dc w has hI hT
    have S0 := (Sp.start w).alloc_box #[.int .i64 n, .slice A xss.length cap] 26
    have hbl := asc_len has
    have hcc := Lib.hid (fun W (h : Below w.heap.size w W) => l5Core_any n hn xss hc begun has.2 (by omega) A D cap dc W (hI.grow h) (hT.grow h))
    have hsr := Lib.hid (ints_src hT (ofN_len begun))
    have h1c := Lib.hid (ints_one_cell (xs := ofN begun))
    have hoI := Lib.hid (ofN_ok (by omega) has)
    have hol := Lib.hid (ofN_len begun)
    rw [chF_zero, show (((0 : Nat)) : Int) = 0 from rfl]
    obtain ⟨q, hq⟩ : ∃ q, coreB n xss begun = q := ⟨_, rfl⟩
    rw [hq] at hcc ⊢
    have hfo : Hid (∀ is, (if q = true then some begun else none) = some is → ofN begun = ofN is) := fun is h => by
      cases q with
      | false => cases h
      | true => cases h; rfl
    have hqs : Hid ((if q = true then some begun else none).isSome = q) := by cases q <;> rfl
    generalize (if q = true then some begun else none) = R at *
    have c0 := S0.cell (i := 0) rfl (o := 0) rfl
    have c1 := S0.cell (i := 0) rfl (o := 1) rfl
    have S1 := Lib.hid S0.drew
    clear S0 hI hT hq has
    go_enter Try.func118, Try.ntmps118
    go_wp2_with fail
    refine wp_region_held_lit (S := (fun w' => w'.cell? ⟨w.heap.size, 0, none⟩ = some (.int .i64 n) ∧ w'.cell? ⟨w.heap.size, 1, none⟩ = some (.slice A xss.length cap))) 8 [false, false, false, false, false, false, false, false] (by kernel_rfl) (by kernel_rfl) (by kernel_rfl) ?_ ?_
    · exact ⟨c0, c1⟩
    intro hSc
    (refine wpAnyH_take (i := 1) (v := ?_) rfl (by kernel_rfl) (by kernel_rfl) (by kernel_rfl) (fun _ _ _ h => h) (Or.inl ⟨by rfl, ?_⟩) (by assumption) ?_; rotate_left; (focus (intro w hSw; (try dsimp only at hSw); go_simp; (try with_reducible rfl); done)); (try simp only [put_rules]))
    (refine wpAnyH_take (i := 3) (v := ?_) rfl (by kernel_rfl) (by kernel_rfl) (by kernel_rfl) (fun _ _ _ h => h) (Or.inl ⟨by rfl, ?_⟩) (by assumption) ?_; rotate_left; (focus (intro w hSw; (try dsimp only at hSw); go_simp; (try with_reducible rfl); done)); (try simp only [put_rules]))
    (refine wpAnyH_take (i := 4) (v := ?_) rfl (by kernel_rfl) (by kernel_rfl) (by kernel_rfl) (fun _ _ _ h => h) (Or.inl ⟨by rfl, ?_⟩) (by assumption) ?_; rotate_left; (focus (intro w hSw; (try dsimp only at hSw); go_simp; (try with_reducible rfl); done)); (try simp only [put_rules]))
    (refine wpAnyH_ready (rs := [0]) (by kernel_rfl) (by simp) ?_; refine AllReadyH.cons rfl (fun K hK => ?_) AllReadyH.nil)
    go_simp
    have S2 := S1.out.own_made 3 1
    (try simp only [World.size_alloc, drew_size2] at S2)
    replace S2 := Lib.hid S2
    clear S1 c0 c1
    refine hK.out _ _ ⟨S2.out.cell (i := 1) rfl (o := 0) rfl, S2.out.cell (i := 1) rfl (o := 1) rfl⟩ (fun hS2 => ?_)
    clear hK hSc
    (try simp only [put_rules])
    (refine wpAnyH_ready (rs := [2]) (by kernel_rfl) (by simp) ?_; refine AllReadyH.cons rfl (fun K hK => ?_) AllReadyH.nil)
    (refine step_append_src rfl _ _ rfl Try.underlying30 hi hz0 hz1 hz2 rfl (by decide) _ 0 _ rfl (S2.out.own (i := 0) rfl) D begun.length dc _ rfl (hsr.out.grow S2.out.below) h1c.out (by unfold maxLen; omega) (by omega) ?_; intro vA wA hownA hgA hatA)
    have S3 := S2.out.own_push (i := 0) rfl (bb _) hownA hgA hatA
    obtain ⟨aA, cA, rfl⟩ := owns_form hownA
    rw [Nat.zero_add, List.nil_append] at S3
    clear hownA hgA hatA
    simp only [Nat.zero_add]
    replace S3 := Lib.hid S3
    clear S2
    refine hK.out _ _ ⟨S3.out.cell (i := 1) rfl (o := 0) rfl, S3.out.cell (i := 1) rfl (o := 1) rfl⟩ (fun hS3 => ?_)
    clear hK hS2
    (try simp only [put_rules])
    (refine wpAnyH_ready (rs := [5]) (by kernel_rfl) (by simp) ?_; refine AllReadyH.cons rfl (fun K hK => ?_) AllReadyH.nil)
    go_simp
    go_at_call 116
    refine (hcc.out _ S3.out.below).mono ?_
    rintro e w5 ⟨rfl, hb5⟩
    have S4 := Lib.hid (S3.out.grow hb5)
    clear hcc S3 hb5
    go_wp2_with fail
    refine hK.out _ _ ⟨S4.out.cell (i := 1) rfl (o := 0) rfl, S4.out.cell (i := 1) rfl (o := 1) rfl⟩ (fun hS4 => ?_)
    clear hK hS3
    (try simp only [put_rules])
    (refine wpAnyH_take (i := 6) (v := ?_) rfl (by kernel_rfl) (by kernel_rfl) (by kernel_rfl) (fun _ _ _ h => h) (Or.inl ⟨by rfl, ?_⟩) (by assumption) ?_; rotate_left; (focus (intro w hSw; (try dsimp only at hSw); go_simp; (try with_reducible rfl); done)); (try simp only [put_rules]))
    (refine wpAnyH_take (i := 7) (v := ?_) rfl (by kernel_rfl) (by kernel_rfl) (by kernel_rfl) (fun _ _ _ h => h) (Or.inl ⟨by rfl, ?_⟩) (by assumption) ?_; rotate_left; (focus (intro w hSw; (try dsimp only at hSw); go_simp; (try with_reducible rfl); done)); (try simp only [put_rules]))
    (refine wpAnyH_done (by kernel_rfl) ?_ _)
    have S5 := Sp.pick [0] S4.out rfl
    rw [← hol.out] at S5
    replace S5 := Lib.hid S5
    clear S4 hS4
    go_wp2_with fail
    go_ret2
    exact ⟨aA, cA, ofN begun, by first | (rw [hol.out, hqs.out]; done) | (rw [hol.out, hqs.out]; rfl), hfo.out, hoI.out, S5.out⟩
  | succ k ih =>
    intro hk begun D dc w has hI hT
    have S0 := (Sp.start w).alloc_box #[.int .i64 n, .slice A xss.length cap] 26
    have hbl := asc_len has
    obtain ⟨P, hP⟩ : ∃ P, coreB n xss = P := ⟨_, rfl⟩
    simp only [hP] at ih ⊢
    have hih := Lib.hid (fun (i : Nat) (hi : nextA begun ≤ i) (him : i < xss.length) E ec W (h : Below w.heap.size w W) (hE : IntsAt W E (ofN (begun ++ [i]))) => ih (by omega) (begun ++ [i]) E ec W (asc_snoc has hi him) (hI.grow h) hE)
    simp only [nextA_snoc, show ∀ i : Nat, (begun ++ [i]).length = begun.length + 1 by simp] at hih
    have hasn := Lib.hid (fun (i : Nat) (hi : nextA begun ≤ i) (him : i < xss.length) => asc_snoc has hi him)
    have hsr := Lib.hid (ints_src hT (ofN_len begun))
    have h1c := Lib.hid (ints_one_cell (xs := ofN begun))
    have hDI := Lib.hid hT
    have hol := Lib.hid (ofN_len begun)
    have hna := Lib.hid (fun (h : 0 < begun.length) => nextA_at h)
    have hnb : Hid (begun.length = 0 → nextA begun = 0) := fun h => by rw [List.length_eq_zero_iff.1 h]; rfl
    have hne : nextA begun ≤ xss.length := by
      rcases Nat.eq_zero_or_pos begun.length with h | h
      · rw [hnb.out h]; omega
      · rw [hna.out h]
        exact has.2 _ (List.getElem_mem _)
    have c0 := S0.cell (i := 0) rfl (o := 0) rfl
    have c1 := S0.cell (i := 0) rfl (o := 1) rfl
    have hto0 : Hid (chTo P xss.length k begun (nextA begun) (nextA begun) = none) := by unfold Hid chTo; rw [Nat.sub_self]; rfl
    have hnx := Lib.hid (fun i (hi : nextA begun ≤ i) h h2 => chTo_next (P := P) (m := xss.length) (k := k) (begun := begun) hi h h2)
    have hfd := Lib.hid (fun i r (hi : nextA begun ≤ i) (him : i < xss.length) h h2 => chTo_found (P := P) (m := xss.length) (k := k) (begun := begun) (r := r) hi him h h2)
    have hal := Lib.hid (fun h => chTo_all (P := P) (m := xss.length) (k := k) (begun := begun) (a := nextA begun) h)
    have hw1 : IntKind.i64.wrap (((k + 1 : Nat) : Int) - 1) = (k : Int) := by rw [IntWalk.i64_in _ (by omega)]; omega
    have hk0 : ((((k + 1 : Nat) : Int)) == 0) = false := beq_eq_false_iff_ne.2 (by omega)
    have hk1 : decide (((k + 1 : Nat) : Int) = 0) = false := decide_eq_false (by omega)
    have hk2 : 1 ≤ ((k + 1 : Nat) : Int) := by omega
    obtain ⟨m, hme⟩ : ∃ m, xss.length = m := ⟨_, rfl⟩
    rw [hme] at S0 c0 c1 hih hasn hto0 hnx hfd hal hne hbl hm ⊢
    obtain ⟨R, hR⟩ : ∃ R, chF P m (k + 1) begun (nextA begun) = R := ⟨_, rfl⟩
    rw [hR] at hfd hal ⊢
    replace S0 := Lib.hid S0
    obtain ⟨a, ha⟩ : ∃ a, nextA begun = a := ⟨_, rfl⟩
    rw [ha] at hih hasn hto0 hnx hfd hal hne hna hnb
    obtain ⟨kz, hkz⟩ : ∃ z : Int, ((k + 1 : Nat) : Int) = z := ⟨_, rfl⟩
    rw [hkz] at hw1 hk0 hk1 hk2 ⊢
    obtain ⟨bl, hbl2⟩ : ∃ bl, begun.length = bl := ⟨_, rfl⟩
    rw [hbl2] at hsr hbl ⊢
    simp only [hbl2] at hih
    replace hbl2 := Lib.hid hbl2
    clear hI hT has ih hP hR ha hme hkz
    go_enter Try.func118, Try.ntmps118
    go_upto_if 22 with fail
    go_cut [8] (fun s wx => s = .int .i64 a ∧ Hid (Sp w wx [Box w.heap.size 26 #[.int .i64 n, .slice A m cap]]))
    case first =>
      by_cases hb0 : 0 < bl
      · have hbq := hbl2.out
        have hat := hna.out (by rw [hbq]; exact hb0)
        obtain ⟨db, doff, rfl, m0⟩ := (hDI.out.grow S0.out.below).at_ (begun.length - 1) (by rw [hol.out]; omega)
        have hval : (ofN begun)[begun.length - 1]'(by rw [hol.out]; omega) = (begun[begun.length - 1]'(by omega) : Int) := ofN_get (by omega)
        rw [hval] at m0
        simp only [hbq] at m0 hat
        generalize begun[bl - 1]'(by omega) = y at *
        have hb1 : decide ((0 : Int) < (bl : Int)) = true := decide_eq_true (by omega)
        have hwb : IntKind.i64.wrap ((bl : Int) - 1) = ((bl - 1 : Nat) : Int) := by rw [IntWalk.i64_in _ (by omega)]; omega
        have hy1 : IntKind.i64.wrap ((y : Int) + 1) = (a : Int) := by rw [IntWalk.i64_in _ (by omega)]; omega
        clear hval hat hbq
        go_wp2_with fail
        go_meet
        exact ⟨rfl, S0⟩
      · have ha0 : a = 0 := hnb.out (by have := hbl2.out; omega)
        have hb1 : decide ((0 : Int) < (bl : Int)) = false := decide_eq_false (by omega)
        go_wp2_with fail
        go_meet
        exact ⟨by rw [ha0]; rfl, S0⟩
    case rest =>
    clear S0 c0 c1 hna hnb
    obtain ⟨rfl, S1⟩ := hcut
    go_wp2_with fail
    go_loopw [9, 10, 11] (fun vi _ _ wr => ∃ i : Nat, a ≤ i ∧ i ≤ m ∧ vi = .int .i64 i ∧ Hid (chTo P m k begun a i = none) ∧ Hid (Sp w wr [Box w.heap.size 26 #[.int .i64 n, .slice A m cap]])) (fun vi _ _ _ => m - (intOf vi).toNat)
    case atStart => exact ⟨a, Nat.le_refl _, hne, rfl, hto0, S1⟩
    case round =>
      obtain ⟨i, hai, him, rfl, hto, HS⟩ := hrel
      clear S1 hto0
      have c0 := HS.out.cell (i := 0) rfl (o := 0) rfl
      have c1 := HS.out.cell (i := 0) rfl (o := 1) rfl
      by_cases hlt : i < m
      · have hcall := Lib.hid (hih.out i hai hlt)
        have has2 := Lib.hid (hasn.out i hai hlt)
        have hnx2 := Lib.hid (fun h2 => hnx.out i hai hto.out h2)
        have hfd2 := Lib.hid (fun r h2 => hfd.out i r hai hlt hto.out h2)
        obtain ⟨R2, hR2⟩ : ∃ R2, chF P m k (begun ++ [i]) (i + 1) = R2 := ⟨_, rfl⟩
        simp only [hR2] at hcall hnx2 hfd2
        clear hR2
        go_upto_region 9 with fail
        go_cut [10, 11] (fun v10 v11 wx => ∃ (B : Option Addr) (c : Nat) (out : List Int), v10 = .slice B out.length c ∧ v11 = .bool R2.isSome ∧ Hid (∀ is, R2 = some is → out = ofN is) ∧ Hid (∀ x ∈ out, I64 x) ∧ Hid (Sp w wx [Own 3 1 (.slice B out.length c) out.length (out.map (.int .i64)), Box w.heap.size 26 #[.int .i64 n, .slice A m cap]]))
        case first =>
          as_aux_lemma =>
            refine wp_region_held_lit (S := (fun w' => w'.cell? ⟨w.heap.size, 0, none⟩ = some (.int .i64 n) ∧ w'.cell? ⟨w.heap.size, 1, none⟩ = some (.slice A m cap))) 15 [false, false, false, false, false, false, false, false, false, false, false, false, false, false, false] (by kernel_rfl) (by kernel_rfl) (by kernel_rfl) ?_ ?_
            · exact ⟨HS.out.cell (i := 0) rfl (o := 0) rfl, HS.out.cell (i := 0) rfl (o := 1) rfl⟩
            intro hS0
            (refine wpAnyH_take (i := 0) (v := ?_) rfl (by kernel_rfl) (by kernel_rfl) (by kernel_rfl) (fun _ _ _ h => h) (Or.inl ⟨by rfl, ?_⟩) (by assumption) ?_; rotate_left; (focus (intro w hSw; (try dsimp only at hSw); go_simp; (try with_reducible rfl); done)); (try simp only [put_rules]))
            (refine wpAnyH_take (i := 2) (v := ?_) rfl (by kernel_rfl) (by kernel_rfl) (by kernel_rfl) (fun _ _ _ h => h) (Or.inl ⟨by rfl, ?_⟩) (by assumption) ?_; rotate_left; (focus (intro w hSw; (try dsimp only at hSw); go_simp; (try with_reducible rfl); done)); (try simp only [put_rules]))
            (refine wpAnyH_take (i := 4) (v := ?_) rfl (by kernel_rfl) (by kernel_rfl) (by kernel_rfl) (fun _ _ _ h => h) (Or.inl ⟨by rfl, ?_⟩) (by assumption) ?_; rotate_left; (focus (intro w hSw; (try dsimp only at hSw); go_simp; (try with_reducible rfl); done)); (try simp only [put_rules]))
            (refine wpAnyH_take (i := 7) (v := ?_) rfl (by kernel_rfl) (by kernel_rfl) (by kernel_rfl) (fun _ _ _ h => h) (Or.inl ⟨by rfl, ?_⟩) (by assumption) ?_; rotate_left; (focus (intro w hSw; (try dsimp only at hSw); go_simp; (try with_reducible rfl); done)); (try simp only [put_rules]))
            (refine wpAnyH_take (i := 8) (v := ?_) rfl (by kernel_rfl) (by kernel_rfl) (by kernel_rfl) (fun _ _ _ h => h) (Or.inl ⟨by rfl, ?_⟩) (by assumption) ?_; rotate_left; (focus (intro w hSw; (try dsimp only at hSw); go_simp; (try with_reducible rfl); done)); (try simp only [put_rules]))
            have Sd0 := Lib.hid HS.out.drew
            clear HS
            (refine wpAnyH_ready (rs := [1, 5]) (by kernel_rfl) (by simp) ?_; refine AllReadyH.cons rfl (fun K hK => ?_) (AllReadyH.cons rfl (fun K hK => ?_) AllReadyH.nil))
            · go_simp
              have Sd1 := Sd0.out.own_made 3 1
              (try simp only [World.size_alloc, drew_size2] at Sd1)
              replace Sd1 := Lib.hid Sd1
              clear Sd0
              refine hK.out _ _ ⟨Sd1.out.cell (i := 1) rfl (o := 0) rfl, Sd1.out.cell (i := 1) rfl (o := 1) rfl⟩ (fun hS1 => ?_)
              clear hK
              (try simp only [put_rules])
              (refine wpAnyH_ready (rs := [3, 5]) (by kernel_rfl) (by simp) ?_; refine AllReadyH.cons rfl (fun K hK => ?_) (AllReadyH.cons rfl (fun K hK => ?_) AllReadyH.nil))
              · (refine step_append_src rfl _ _ rfl Try.underlying30 hi hz0 hz1 hz2 rfl (by decide) _ 0 _ rfl (Sd1.out.own (i := 0) rfl) D bl dc _ rfl (hsr.out.grow Sd1.out.below) h1c.out (by unfold maxLen; omega) (by omega) ?_; intro vA wA hownA hgA hatA)
                have Sd2 := Sd1.out.own_push (i := 0) rfl (bb _) hownA hgA hatA
                obtain ⟨aA, cA, rfl⟩ := owns_form hownA
                rw [Nat.zero_add, List.nil_append] at Sd2
                clear hownA hgA hatA
                simp only [Nat.zero_add]
                replace Sd2 := Lib.hid Sd2
                clear Sd1
                refine hK.out _ _ ⟨Sd2.out.cell (i := 1) rfl (o := 0) rfl, Sd2.out.cell (i := 1) rfl (o := 1) rfl⟩ (fun hS2 => ?_)
                clear hK
                (try simp only [put_rules])
                (refine wpAnyH_ready (rs := [5]) (by kernel_rfl) (by simp) ?_; refine AllReadyH.cons rfl (fun K hK => ?_) AllReadyH.nil)
                go_simp
                have Sd3 := Sd2.out.alloc_box #[.int .i64 i] 3
                (try simp only [World.size_alloc, drew_size2] at Sd3)
                replace Sd3 := Lib.hid Sd3
                clear Sd2
                refine hK.out _ _ ⟨Sd3.out.cell (i := 2) rfl (o := 0) rfl, Sd3.out.cell (i := 2) rfl (o := 1) rfl⟩ (fun hS3 => ?_)
                clear hK
                (try simp only [put_rules])
                (refine wpAnyH_ready (rs := [6]) (by kernel_rfl) (by simp) ?_; refine AllReadyH.cons rfl (fun K hK => ?_) AllReadyH.nil)
                (refine step_append_src rfl _ _ rfl Try.underlying30 hi hz0 hz1 hz2 rfl (by decide) _ bl _ rfl (Sd3.out.own (i := 1) rfl) _ 1 1 [.int .i64 i] rfl (Src.one (Sd3.out.cell (i := 0) rfl (o := 0) rfl)) (by simp [Value.oneCell']) (by unfold maxLen; omega) (by omega) ?_; intro vB wB hownB hgB hatB)
                have Sd4 := Sd3.out.own_push (i := 1) rfl (bb _) hownB hgB hatB
                obtain ⟨aB, cB, rfl⟩ := owns_form hownB
                clear hownB hgB hatB
                replace Sd4 := Lib.hid Sd4
                clear Sd3
                refine hK.out _ _ ⟨Sd4.out.cell (i := 2) rfl (o := 0) rfl, Sd4.out.cell (i := 2) rfl (o := 1) rfl⟩ (fun hS4 => ?_)
                clear hK
                (try simp only [put_rules])
                (refine wpAnyH_ready (rs := [9]) (by kernel_rfl) (by simp) ?_; refine AllReadyH.cons rfl (fun K hK => ?_) AllReadyH.nil)
                go_simp
                go_at_call 118
                refine (hcall.out aB cB _ Sd4.out.below (own_snoc_ints (m := m) hbl2.out (by omega) Sd4.out (j := 1) rfl has2.out)).mono ?_
                rintro e w9 ⟨B9, c9, out, rfl, ho1, ho2, T9⟩
                replace ho1 := Lib.hid ho1
                replace ho2 := Lib.hid ho2
                have Sd5 := Sd4.out.seq T9
                clear T9
                replace Sd5 := Lib.hid Sd5
                clear Sd4
                go_wp2_with fail
                refine hK.out _ _ ⟨Sd5.out.cell (i := 3) rfl (o := 0) rfl, Sd5.out.cell (i := 3) rfl (o := 1) rfl⟩ (fun hS5 => ?_)
                clear hK
                (try simp only [put_rules])
                (refine wpAnyH_take (i := 10) (v := ?_) rfl (by kernel_rfl) (by kernel_rfl) (by kernel_rfl) (fun _ _ _ h => h) (Or.inl ⟨by rfl, ?_⟩) (by assumption) ?_; rotate_left; (focus (intro w hSw; (try dsimp only at hSw); go_simp; (try with_reducible rfl); done)); (try simp only [put_rules]))
                (refine wpAnyH_take (i := 11) (v := ?_) rfl (by kernel_rfl) (by kernel_rfl) (by kernel_rfl) (fun _ _ _ h => h) (Or.inl ⟨by rfl, ?_⟩) (by assumption) ?_; rotate_left; (focus (intro w hSw; (try dsimp only at hSw); go_simp; (try with_reducible rfl); done)); (try simp only [put_rules]))
                (refine wpAnyH_take (i := 12) (v := ?_) rfl (by kernel_rfl) (by kernel_rfl) (by kernel_rfl) (fun _ _ _ h => h) (Or.inl ⟨by rfl, ?_⟩) (by assumption) ?_; rotate_left; (focus (intro w hSw; (try dsimp only at hSw); go_simp; (try with_reducible rfl); done)); (try simp only [put_rules]))
                (refine wpAnyH_take (i := 13) (v := ?_) rfl (by kernel_rfl) (by kernel_rfl) (by kernel_rfl) (fun _ _ _ h => h) (Or.inl ⟨by rfl, ?_⟩) (by assumption) ?_; rotate_left; (focus (intro w hSw; (try dsimp only at hSw); go_simp; (try with_reducible rfl); done)); (try simp only [put_rules]))
                (refine wpAnyH_take (i := 14) (v := ?_) rfl (by kernel_rfl) (by kernel_rfl) (by kernel_rfl) (fun _ _ _ h => h) (Or.inl ⟨by rfl, ?_⟩) (by assumption) ?_; rotate_left; (focus (intro w hSw; (try dsimp only at hSw); go_simp; (try with_reducible rfl); done)); (try simp only [put_rules]))
                (refine wpAnyH_done (by kernel_rfl) ?_ _)
                have SG : Hid (Sp w _ [Own 3 1 (.slice B9 out.length c9) out.length (out.map (.int .i64)), Box w.heap.size 26 #[.int .i64 n, .slice A m cap]]) := Sp.pick [0, 2] Sd5.out rfl
                clear Sd5
                go_wp2_with fail
                go_meet
                exact ⟨_, _, _, rfl, rfl, ho1, ho2, SG⟩
              · go_simp
                have Sd6 := Sd1.out.alloc_box #[.int .i64 i] 3
                (try simp only [World.size_alloc, drew_size2] at Sd6)
                replace Sd6 := Lib.hid Sd6
                clear Sd1
                refine hK.out _ _ ⟨Sd6.out.cell (i := 2) rfl (o := 0) rfl, Sd6.out.cell (i := 2) rfl (o := 1) rfl⟩ (fun hS6 => ?_)
                clear hK
                (try simp only [put_rules])
                (refine wpAnyH_ready (rs := [3]) (by kernel_rfl) (by simp) ?_; refine AllReadyH.cons rfl (fun K hK => ?_) AllReadyH.nil)
                (refine step_append_src rfl _ _ rfl Try.underlying30 hi hz0 hz1 hz2 rfl (by decide) _ 0 _ rfl (Sd6.out.own (i := 1) rfl) D bl dc _ rfl (hsr.out.grow Sd6.out.below) h1c.out (by unfold maxLen; omega) (by omega) ?_; intro vA wA hownA hgA hatA)
                have Sd7 := Sd6.out.own_push (i := 1) rfl (bb _) hownA hgA hatA
                obtain ⟨aA, cA, rfl⟩ := owns_form hownA
                rw [Nat.zero_add, List.nil_append] at Sd7
                clear hownA hgA hatA
                simp only [Nat.zero_add]
                replace Sd7 := Lib.hid Sd7
                clear Sd6
                refine hK.out _ _ ⟨Sd7.out.cell (i := 2) rfl (o := 0) rfl, Sd7.out.cell (i := 2) rfl (o := 1) rfl⟩ (fun hS7 => ?_)
                clear hK
                (try simp only [put_rules])
                (refine wpAnyH_ready (rs := [6]) (by kernel_rfl) (by simp) ?_; refine AllReadyH.cons rfl (fun K hK => ?_) AllReadyH.nil)
                (refine step_append_src rfl _ _ rfl Try.underlying30 hi hz0 hz1 hz2 rfl (by decide) _ bl _ rfl (Sd7.out.own (i := 1) rfl) _ 1 1 [.int .i64 i] rfl (Src.one (Sd7.out.cell (i := 0) rfl (o := 0) rfl)) (by simp [Value.oneCell']) (by unfold maxLen; omega) (by omega) ?_; intro vB wB hownB hgB hatB)
                have Sd8 := Sd7.out.own_push (i := 1) rfl (bb _) hownB hgB hatB
                obtain ⟨aB, cB, rfl⟩ := owns_form hownB
                clear hownB hgB hatB
                replace Sd8 := Lib.hid Sd8
                clear Sd7
                refine hK.out _ _ ⟨Sd8.out.cell (i := 2) rfl (o := 0) rfl, Sd8.out.cell (i := 2) rfl (o := 1) rfl⟩ (fun hS8 => ?_)
                clear hK
                (try simp only [put_rules])
                (refine wpAnyH_ready (rs := [9]) (by kernel_rfl) (by simp) ?_; refine AllReadyH.cons rfl (fun K hK => ?_) AllReadyH.nil)
                go_simp
                go_at_call 118
                refine (hcall.out aB cB _ Sd8.out.below (own_snoc_ints (m := m) hbl2.out (by omega) Sd8.out (j := 1) rfl has2.out)).mono ?_
                rintro e w9 ⟨B9, c9, out, rfl, ho1, ho2, T9⟩
                replace ho1 := Lib.hid ho1
                replace ho2 := Lib.hid ho2
                have Sd9 := Sd8.out.seq T9
                clear T9
                replace Sd9 := Lib.hid Sd9
                clear Sd8
                go_wp2_with fail
                refine hK.out _ _ ⟨Sd9.out.cell (i := 3) rfl (o := 0) rfl, Sd9.out.cell (i := 3) rfl (o := 1) rfl⟩ (fun hS9 => ?_)
                clear hK
                (try simp only [put_rules])
                (refine wpAnyH_take (i := 10) (v := ?_) rfl (by kernel_rfl) (by kernel_rfl) (by kernel_rfl) (fun _ _ _ h => h) (Or.inl ⟨by rfl, ?_⟩) (by assumption) ?_; rotate_left; (focus (intro w hSw; (try dsimp only at hSw); go_simp; (try with_reducible rfl); done)); (try simp only [put_rules]))
                (refine wpAnyH_take (i := 11) (v := ?_) rfl (by kernel_rfl) (by kernel_rfl) (by kernel_rfl) (fun _ _ _ h => h) (Or.inl ⟨by rfl, ?_⟩) (by assumption) ?_; rotate_left; (focus (intro w hSw; (try dsimp only at hSw); go_simp; (try with_reducible rfl); done)); (try simp only [put_rules]))
                (refine wpAnyH_take (i := 12) (v := ?_) rfl (by kernel_rfl) (by kernel_rfl) (by kernel_rfl) (fun _ _ _ h => h) (Or.inl ⟨by rfl, ?_⟩) (by assumption) ?_; rotate_left; (focus (intro w hSw; (try dsimp only at hSw); go_simp; (try with_reducible rfl); done)); (try simp only [put_rules]))
                (refine wpAnyH_take (i := 13) (v := ?_) rfl (by kernel_rfl) (by kernel_rfl) (by kernel_rfl) (fun _ _ _ h => h) (Or.inl ⟨by rfl, ?_⟩) (by assumption) ?_; rotate_left; (focus (intro w hSw; (try dsimp only at hSw); go_simp; (try with_reducible rfl); done)); (try simp only [put_rules]))
                (refine wpAnyH_take (i := 14) (v := ?_) rfl (by kernel_rfl) (by kernel_rfl) (by kernel_rfl) (fun _ _ _ h => h) (Or.inl ⟨by rfl, ?_⟩) (by assumption) ?_; rotate_left; (focus (intro w hSw; (try dsimp only at hSw); go_simp; (try with_reducible rfl); done)); (try simp only [put_rules]))
                (refine wpAnyH_done (by kernel_rfl) ?_ _)
                have SG : Hid (Sp w _ [Own 3 1 (.slice B9 out.length c9) out.length (out.map (.int .i64)), Box w.heap.size 26 #[.int .i64 n, .slice A m cap]]) := Sp.pick [0, 2] Sd9.out rfl
                clear Sd9
                go_wp2_with fail
                go_meet
                exact ⟨_, _, _, rfl, rfl, ho1, ho2, SG⟩
            · go_simp
              have Sd10 := Sd0.out.alloc_box #[.int .i64 i] 3
              (try simp only [World.size_alloc, drew_size2] at Sd10)
              replace Sd10 := Lib.hid Sd10
              clear Sd0
              refine hK.out _ _ ⟨Sd10.out.cell (i := 1) rfl (o := 0) rfl, Sd10.out.cell (i := 1) rfl (o := 1) rfl⟩ (fun hS10 => ?_)
              clear hK
              (try simp only [put_rules])
              (refine wpAnyH_ready (rs := [1]) (by kernel_rfl) (by simp) ?_; refine AllReadyH.cons rfl (fun K hK => ?_) AllReadyH.nil)
              go_simp
              have Sd11 := Sd10.out.own_made 3 1
              (try simp only [World.size_alloc, drew_size2] at Sd11)
              replace Sd11 := Lib.hid Sd11
              clear Sd10
              refine hK.out _ _ ⟨Sd11.out.cell (i := 2) rfl (o := 0) rfl, Sd11.out.cell (i := 2) rfl (o := 1) rfl⟩ (fun hS11 => ?_)
              clear hK
              (try simp only [put_rules])
              (refine wpAnyH_ready (rs := [3]) (by kernel_rfl) (by simp) ?_; refine AllReadyH.cons rfl (fun K hK => ?_) AllReadyH.nil)
              (refine step_append_src rfl _ _ rfl Try.underlying30 hi hz0 hz1 hz2 rfl (by decide) _ 0 _ rfl (Sd11.out.own (i := 0) rfl) D bl dc _ rfl (hsr.out.grow Sd11.out.below) h1c.out (by unfold maxLen; omega) (by omega) ?_; intro vA wA hownA hgA hatA)
              have Sd12 := Sd11.out.own_push (i := 0) rfl (bb _) hownA hgA hatA
              obtain ⟨aA, cA, rfl⟩ := owns_form hownA
              rw [Nat.zero_add, List.nil_append] at Sd12
              clear hownA hgA hatA
              simp only [Nat.zero_add]
              replace Sd12 := Lib.hid Sd12
              clear Sd11
              refine hK.out _ _ ⟨Sd12.out.cell (i := 2) rfl (o := 0) rfl, Sd12.out.cell (i := 2) rfl (o := 1) rfl⟩ (fun hS12 => ?_)
              clear hK
              (try simp only [put_rules])
              (refine wpAnyH_ready (rs := [6]) (by kernel_rfl) (by simp) ?_; refine AllReadyH.cons rfl (fun K hK => ?_) AllReadyH.nil)
              (refine step_append_src rfl _ _ rfl Try.underlying30 hi hz0 hz1 hz2 rfl (by decide) _ bl _ rfl (Sd12.out.own (i := 0) rfl) _ 1 1 [.int .i64 i] rfl (Src.one (Sd12.out.cell (i := 1) rfl (o := 0) rfl)) (by simp [Value.oneCell']) (by unfold maxLen; omega) (by omega) ?_; intro vB wB hownB hgB hatB)
              have Sd13 := Sd12.out.own_push (i := 0) rfl (bb _) hownB hgB hatB
              obtain ⟨aB, cB, rfl⟩ := owns_form hownB
              clear hownB hgB hatB
              replace Sd13 := Lib.hid Sd13
              clear Sd12
              refine hK.out _ _ ⟨Sd13.out.cell (i := 2) rfl (o := 0) rfl, Sd13.out.cell (i := 2) rfl (o := 1) rfl⟩ (fun hS13 => ?_)
              clear hK
              (try simp only [put_rules])
              (refine wpAnyH_ready (rs := [9]) (by kernel_rfl) (by simp) ?_; refine AllReadyH.cons rfl (fun K hK => ?_) AllReadyH.nil)
              go_simp
              go_at_call 118
              refine (hcall.out aB cB _ Sd13.out.below (own_snoc_ints (m := m) hbl2.out (by omega) Sd13.out (j := 0) rfl has2.out)).mono ?_
              rintro e w9 ⟨B9, c9, out, rfl, ho1, ho2, T9⟩
              replace ho1 := Lib.hid ho1
              replace ho2 := Lib.hid ho2
              have Sd14 := Sd13.out.seq T9
              clear T9
              replace Sd14 := Lib.hid Sd14
              clear Sd13
              go_wp2_with fail
              refine hK.out _ _ ⟨Sd14.out.cell (i := 3) rfl (o := 0) rfl, Sd14.out.cell (i := 3) rfl (o := 1) rfl⟩ (fun hS14 => ?_)
              clear hK
              (try simp only [put_rules])
              (refine wpAnyH_take (i := 10) (v := ?_) rfl (by kernel_rfl) (by kernel_rfl) (by kernel_rfl) (fun _ _ _ h => h) (Or.inl ⟨by rfl, ?_⟩) (by assumption) ?_; rotate_left; (focus (intro w hSw; (try dsimp only at hSw); go_simp; (try with_reducible rfl); done)); (try simp only [put_rules]))
              (refine wpAnyH_take (i := 11) (v := ?_) rfl (by kernel_rfl) (by kernel_rfl) (by kernel_rfl) (fun _ _ _ h => h) (Or.inl ⟨by rfl, ?_⟩) (by assumption) ?_; rotate_left; (focus (intro w hSw; (try dsimp only at hSw); go_simp; (try with_reducible rfl); done)); (try simp only [put_rules]))
              (refine wpAnyH_take (i := 12) (v := ?_) rfl (by kernel_rfl) (by kernel_rfl) (by kernel_rfl) (fun _ _ _ h => h) (Or.inl ⟨by rfl, ?_⟩) (by assumption) ?_; rotate_left; (focus (intro w hSw; (try dsimp only at hSw); go_simp; (try with_reducible rfl); done)); (try simp only [put_rules]))
              (refine wpAnyH_take (i := 13) (v := ?_) rfl (by kernel_rfl) (by kernel_rfl) (by kernel_rfl) (fun _ _ _ h => h) (Or.inl ⟨by rfl, ?_⟩) (by assumption) ?_; rotate_left; (focus (intro w hSw; (try dsimp only at hSw); go_simp; (try with_reducible rfl); done)); (try simp only [put_rules]))
              (refine wpAnyH_take (i := 14) (v := ?_) rfl (by kernel_rfl) (by kernel_rfl) (by kernel_rfl) (fun _ _ _ h => h) (Or.inl ⟨by rfl, ?_⟩) (by assumption) ?_; rotate_left; (focus (intro w hSw; (try dsimp only at hSw); go_simp; (try with_reducible rfl); done)); (try simp only [put_rules]))
              (refine wpAnyH_done (by kernel_rfl) ?_ _)
              have SG : Hid (Sp w _ [Own 3 1 (.slice B9 out.length c9) out.length (out.map (.int .i64)), Box w.heap.size 26 #[.int .i64 n, .slice A m cap]]) := Sp.pick [0, 2] Sd14.out rfl
              clear Sd14
              go_wp2_with fail
              go_meet
              exact ⟨_, _, _, rfl, rfl, ho1, ho2, SG⟩
        case rest =>
        clear hcall has2 HS c0 c1
        obtain ⟨B, c, out, rfl, rfl, ho1, ho2, HS2⟩ := hcut
        cases R2 with
        | none =>
          have hto2 := Lib.hid (hnx2.out rfl)
          have HS3 := Lib.hid HS2.out.tail
          clear HS2 ho1 ho2
          go_wp2_with fail
          go_roundw
          case rel => exact ⟨i + 1, by omega, by omega, by go_num, hto2, HS3⟩
          case measure => simp [intOf]; omega
        | some r =>
          obtain rfl : R = some r := hfd2.out r rfl
          have HS3 := Lib.hid (Sp.pick [0] HS2.out rfl)
          clear HS2
          go_wp2_with fail
          go_ret2
          exact ⟨B, c, out, rfl, ho1.out, ho2.out, HS3.out⟩
      · obtain rfl : i = m := by omega
        obtain rfl : R = none := hal.out hto.out
        have HS3 := HS.out.own_made 3 1
        have HS4 := Lib.hid (Sp.pick [0] HS3 rfl)
        clear HS HS3
        go_wp2_with fail
        go_ret2
        exact ⟨_, _, [], rfl, (fun is h => by cases h), (fun x hx => by simp at hx), HS4.out⟩
end Go.Proofs.Ytmikconjhmhekaa

/- Contract: the recursive closure that lists ascending lists, at every depth. -/
namespace Go.Proofs.Ytmikconjhmhekaa
open Go.RowKit

set_option maxRecDepth 100000 in
set_option maxHeartbeats 16000000 in
theorem grow_any (n many lim po pl pm pn pg : Nat) (hn : n ≤ 100) (hmm : many ≤ 1000) (hlim : lim ≤ 100000) : ∀ (d : Nat) (xs : List Nat) (a : Nat) (D : Option Addr) (dc : Nat) (B : Option Addr) (c : Nat) (cs : List Value) (LI : List (List Int)) (w0 W : World) (ps : List Asn), xs.length + d = many → (xs = [] → D = none) → a ≤ n + 1 → AscN (n + 1) xs → nextA xs ≤ a → LI.length + (goL (n + 1) xs d a).length ≤ lim →
    Sp w0 W (Own 3 1 (.slice D xs.length dc) xs.length ((ofN xs).map (.int .i64)) :: GB po pl pm pn pg B c cs LI n many lim ps) →
    Calls Try.prog 208 #[.slice D xs.length dc, .int .i64 a, .pointer (some ⟨po, 0, none⟩), .pointer (some ⟨pl, 0, none⟩), .pointer (some ⟨pm, 0, none⟩), .pointer (some ⟨pn, 0, none⟩), .pointer (some ⟨pg, 0, none⟩)] W fun e w' => e = .returned (.tuple #[]) ∧
      ∃ B' c' cs', Sp w0 w' (Own 3 1 (.slice D xs.length dc) xs.length ((ofN xs).map (.int .i64)) :: GB po pl pm pn pg B' c' cs' (LI ++ goL (n + 1) xs d a) n many lim ps) := by
  have eg : Enter1 208 := enters_of Try.func208 (by kernel_rfl) rfl
  unfold Enter1 at eg
  obtain ⟨i0, hi, hz0, hz1, hz2⟩ := info_parts infoInt
  intro d
  induction d with
  | zero =>
    intro xs a D dc B c cs LI w0 W ps hm hD ha has hna hL S
    rw [goL_zero] at hL ⊢
    exact grow_zero n many lim po pl pm pn pg hlim xs a D dc B c cs LI w0 W ps hm hmm hD (ofN_ok (m := n + 1) (by omega) has) hL S
  | succ d ih =>
    intro xs a D dc B c cs LI w0 W ps hm hD ha has hna hL S
    have hall := Lib.hid (soL_all (n + 1) xs d a)
    have hst := Lib.hid (soL_start (n + 1) xs d a)
    have hnx := Lib.hid (fun v (h : a ≤ v) => soL_next (M := n + 1) (xs := xs) (d := d) h)
    have hle := Lib.hid (fun v (h : a ≤ v) (h2 : v ≤ n + 1) => by
      have := soL_mono (M := n + 1) (xs := xs) (d := d) (a := a) (v := v) (n + 1 - v) h
      rw [show v + (n + 1 - v) = n + 1 by omega] at this
      exact this)
    rw [soL_all] at hL ⊢
    have hasn := Lib.hid (fun v (h : a ≤ v) (h2 : v < n + 1) => asc_snoc has (Nat.le_trans hna h) h2)
    have hih := Lib.hid (fun v (h : a ≤ v) (h2 : v < n + 1) D2 dc2 B2 c2 cs2 LI2 W2 ps2 (hL2 : LI2.length + (goL (n + 1) (xs ++ [v]) d (v + 1)).length ≤ lim) S2 => ih (xs ++ [v]) (v + 1) D2 dc2 B2 c2 cs2 LI2 w0 W2 ps2 (by simp; omega) (fun h => by simp at h) (by omega) (asc_snoc has (Nat.le_trans hna h) h2) (by rw [nextA_snoc]; omega) hL2 S2)
    have hsl : ∀ v : Nat, (xs ++ [v]).length = xs.length + 1 := by simp
    have hsv : ∀ v : Nat, (ofN (xs ++ [v])).map (Value.int .i64) = (ofN xs).map (.int .i64) ++ [.int .i64 (v : Int)] := by intro v; unfold ofN; simp
    simp only [hsl, hsv] at hih
    have hxl := asc_len has
    have hxm : xs.length < many := by omega
    have hln : ((ofN xs).map (Value.int .i64)).length = xs.length := by simp [ofN]
    obtain ⟨us, hus⟩ : ∃ us, (ofN xs).map (Value.int .i64) = us := ⟨_, rfl⟩
    simp only [hus] at hih S hln ⊢
    obtain ⟨xl, hxle⟩ : ∃ xl, xs.length = xl := ⟨_, rfl⟩
    simp only [hxle] at hih S hln hxl hxm ⊢
    clear ih hm hD has hna hsl hsv hus hxle
    replace hln := Lib.hid hln
    have c0 := S.cell (i := 2) rfl (o := 0) rfl
    have c1 := S.cell (i := 3) rfl (o := 0) rfl
    have c2 := S.cell (i := 4) rfl (o := 0) rfl
    have d0 : decide ((lim : Int) < (LI.length : Int)) = false := decide_eq_false (by omega)
    have d1 : ((xl : Int) == (many : Int)) = false := beq_eq_false_iff_ne.2 (by omega)
    have d2 : decide ((xl : Int) = (many : Int)) = false := decide_eq_false (by omega)
    have hL1 : LI.length ≤ lim := by omega
    replace hL := Lib.hid hL
    have S0 : Hid (Sp w0 W (Own 3 1 (.slice D xl dc) xl us :: GB po pl pm pn pg B c cs (LI ++ soL (n + 1) xs d a a) n many lim ps)) := by
      unfold Hid; rw [hst.out, List.append_nil]; exact S
    clear S
    go_enter Try.func208, Try.ntmps208
    go_wp2_with fail
    (try rw [decide_eq_false (show ¬ lim < LI.length by omega)])
    clear c0 c1 c2 d0
    go_loopw [9] (fun vi wr => ∃ (v : Nat) (B : Option Addr) (c : Nat) (cs : List Value), a ≤ v ∧ v ≤ n + 1 ∧ vi = .int .i64 v ∧ Hid (Sp w0 wr (Own 3 1 (.slice D xl dc) xl us :: GB po pl pm pn pg B c cs (LI ++ soL (n + 1) xs d a v) n many lim ps))) (fun vi _ => n + 1 - (intOf vi).toNat)
    case atStart => exact ⟨a, B, c, cs, Nat.le_refl _, ha, rfl, S0⟩
    case round =>
      obtain ⟨v, B, c, cs, hav, hvn, rfl, HS⟩ := hrel
      clear S0
      have c0 := HS.out.cell (i := 5) rfl (o := 0) rfl
      by_cases hlt : v ≤ n
      · have d3 : decide ((v : Int) ≤ (n : Int)) = true := decide_eq_true (by omega)
        have hw1 : IntKind.i64.wrap ((v : Int) + 1) = ((v + 1 : Nat) : Int) := by rw [IntWalk.i64_in _ (by omega)]; rfl
        have hnv := Lib.hid (hnx.out v hav)
        have hlv := hle.out (v + 1) (by omega) (by omega)
        rw [hnx.out v hav, List.length_append] at hlv
        have hcall := Lib.hid (fun D2 dc2 W2 ps2 S2 => hih.out v hav (by omega) D2 dc2 B c cs (LI ++ soL (n + 1) xs d a v) W2 ps2 (by rw [List.length_append]; have := hL.out; omega) S2)
        have g0 := HS.out.cell (i := 6) rfl (o := 0) rfl
        have S1 := Lib.hid HS.out.drew
        replace hlv := Lib.hid hlv
        generalize hso : soL (n + 1) xs d a v = SV at *
        generalize goL (n + 1) (xs ++ [v]) d (v + 1) = GV at *
        clear hso
        go_wp2_with fail
        refine wp_region_held_lit (S := (fun w' => w'.cell? ⟨pg, 0, none⟩ = some (.func (.func 208) #[] #[.pointer (some ⟨po, 0, none⟩), .pointer (some ⟨pl, 0, none⟩), .pointer (some ⟨pm, 0, none⟩), .pointer (some ⟨pn, 0, none⟩), .pointer (some ⟨pg, 0, none⟩)]))) 8 [false, false, false, false, false, false, false, false] (by kernel_rfl) (by kernel_rfl) (by kernel_rfl) ?_ ?_
        · exact g0
        intro hSc
        (refine wpAnyH_take (i := 0) (v := ?_) rfl (by kernel_rfl) (by kernel_rfl) (by kernel_rfl) (fun _ _ _ h => h) (Or.inl ⟨by rfl, ?_⟩) (by assumption) ?_; rotate_left; (focus (intro w hSw; (try dsimp only at hSw); go_simp; (try with_reducible rfl); done)); (try simp only [put_rules]))
        (refine wpAnyH_take (i := 1) (v := ?_) rfl (by kernel_rfl) (by kernel_rfl) (by kernel_rfl) (fun _ _ _ h => h) (Or.inl ⟨by rfl, ?_⟩) (by assumption) ?_; rotate_left; (focus (intro w hSw; (try dsimp only at hSw); go_simp; (try with_reducible rfl); done)); (try simp only [put_rules]))
        (refine wpAnyH_take (i := 2) (v := ?_) rfl (by kernel_rfl) (by kernel_rfl) (by kernel_rfl) (fun _ _ _ h => h) (Or.inl ⟨by rfl, ?_⟩) (by assumption) ?_; rotate_left; (focus (intro w hSw; (try dsimp only at hSw); go_simp; (try with_reducible rfl); done)); (try simp only [put_rules]))
        (refine wpAnyH_take (i := 5) (v := ?_) rfl (by kernel_rfl) (by kernel_rfl) (by kernel_rfl) (fun _ _ _ h => h) (Or.inl ⟨by rfl, ?_⟩) (by assumption) ?_; rotate_left; (focus (intro w hSw; (try dsimp only at hSw); go_simp; (try with_reducible rfl); done)); (try simp only [put_rules]))
        (refine wpAnyH_take (i := 6) (v := ?_) rfl (by kernel_rfl) (by kernel_rfl) (by kernel_rfl) (fun _ _ _ h => h) (Or.inl ⟨by rfl, ?_⟩) (by assumption) ?_; rotate_left; (focus (intro w hSw; (try dsimp only at hSw); go_simp; (try with_reducible rfl); done)); (try simp only [put_rules]))
        (refine wpAnyH_ready (rs := [3]) (by kernel_rfl) (by simp) ?_; refine AllReadyH.cons rfl (fun K hK => ?_) AllReadyH.nil)
        go_simp
        have S2 := S1.out.alloc_box #[.int .i64 (v : Int)] 3
        have kB := S2.cell (i := 0) rfl (o := 0) rfl
        refine hK.out _ _ (S2.cell (i := 7) rfl (o := 0) rfl) (fun hS2 => ?_)
        replace S2 := Lib.hid S2
        clear hK hSc S1 HS c0 g0
        (try simp only [put_rules])
        (refine wpAnyH_ready (rs := [4]) (by kernel_rfl) (by simp) ?_; refine AllReadyH.cons rfl (fun K hK => ?_) AllReadyH.nil)
        (refine step_append_keep rfl _ _ rfl Try.underlying30 hi hz0 hz1 hz2 rfl (by decide) _ xl _ rfl (S2.out.own (i := 1) rfl) ⟨wr.heap.size, 0, none⟩ 1 1 [.int .i64 (v : Int)] rfl rfl (fun j u hj => by
          match j, hj with
          | 0, hj => simp at hj; subst hj; rw [add_none]; exact kB) (by simp [Value.oneCell']) (by unfold maxLen; omega) (by omega) (by decide) ?_; intro vA wA hownA hgA hatA)
        have hfin : ∃ (D2 : Option Addr) (dc2 : Nat), vA = .slice D2 (xl + 1) dc2 ∧ ∃ ps2, Sp w0 wA (Own 3 1 (.slice D2 (xl + 1) dc2) (xl + 1) (us ++ [.int .i64 (v : Int)]) :: GB po pl pm pn pg B c cs (LI ++ SV) n many lim ps2) ∧
            ∀ wz B' c' cs' LI', Sp w0 wz (Own 3 1 (.slice D2 (xl + 1) dc2) (xl + 1) (us ++ [.int .i64 (v : Int)]) :: GB po pl pm pn pg B' c' cs' LI' n many lim ps2) → Sp w0 wz (Own 3 1 (.slice D xl dc) xl us :: GB po pl pm pn pg B' c' cs' LI' n many lim ps) := by
          rcases hatA with ⟨A2, cap2, e1, rfl⟩ | ⟨hnew, hbel⟩
          · cases e1
            refine ⟨D, dc, rfl, ps, ?_, fun wz B' c' cs' LI' h => ?_⟩
            · exact (S2.out.own_push (i := 1) rfl (bb _) hownA hgA (.inl (by cases D <;> simp [Value.ownBlock]))).tail
            · obtain ⟨g', cap', cur', e2, -⟩ := own_block (h.own (i := 0) rfl) (by omega)
              simp only [Value.slice.injEq] at e2
              obtain ⟨rfl, -, rfl⟩ := e2
              have h2 := h.own_cut (i := 0) (m := xl) rfl (by omega)
              rw [show (us ++ [Value.int .i64 (v : Int)]).take xl = us by rw [← hln.out]; exact List.take_left] at h2
              exact h2
          · obtain ⟨D2, dc2, rfl⟩ := own_slice hownA
            refine ⟨D2, dc2, rfl, Own 3 1 (.slice D xl dc) xl us :: ps, ?_, fun wz B' c' cs' LI' h => h.move_out⟩
            have h1 := S2.out.tail.own_new hbel hownA (fun g hg => by rw [hnew] at hg; cases hg; exact Nat.le_refl _)
            exact h1.move_in
        obtain ⟨D2, dc2, rfl, ps2, S3, hback⟩ := hfin
        have hc3 := hcall.out D2 dc2 wA ps2 S3
        rw [show ((v + 1 : Nat) : Int) = (v : Int) + 1 from rfl] at hc3
        replace hc3 := Lib.hid hc3
        refine hK.out _ _ (S3.cell (i := 6) rfl (o := 0) rfl) (fun hS3 => ?_)
        replace hback := Lib.hid hback
        clear hK hS2 S2 S3 hcall kB hownA hgA hatA
        (try simp only [put_rules])
        (refine wpAnyH_ready (rs := [7]) (by kernel_rfl) (by simp) ?_; refine AllReadyH.cons rfl (fun K hK => ?_) AllReadyH.nil)
        go_simp
        refine hc3.out.mono ?_
        rintro e w4 ⟨rfl, B', c', cs', S4⟩
        have S5 := hback.out _ _ _ _ _ S4
        rw [List.append_assoc, ← hnv.out] at S5
        have g0 := S5.cell (i := 6) rfl (o := 0) rfl
        replace S5 := Lib.hid S5
        clear hc3 hback S4
        go_wp2_with fail
        refine hK.out _ _ g0 (fun hS4 => ?_)
        clear hK hS3 g0
        (try simp only [put_rules])
        (refine wpAnyH_done (by kernel_rfl) ?_ _)
        go_wp2_with fail
        go_roundw
        case rel => exact ⟨v + 1, B', c', cs', by omega, by omega, by go_num, S5⟩
        case measure => simp [intOf]; omega
      · obtain rfl : v = n + 1 := by omega
        have d3 : decide (((n + 1 : Nat) : Int) ≤ (n : Int)) = false := decide_eq_false (by omega)
        replace HS := Lib.hid HS.out
        go_wp2_with fail
        exact bodyPost_end (v := .tuple #[]) (by simp [results, Try.results208, go_sem]) rfl ⟨rfl, B, c, cs, HS.out⟩
end Go.Proofs.Ytmikconjhmhekaa

/- Contract: all ascending lists of a length, in the program. -/
namespace Go.Proofs.Ytmikconjhmhekaa
open Go.RowKit

set_option maxRecDepth 100000 in
set_option maxHeartbeats 8000000 in
theorem choices_any (n many lim : Nat) (hn : n ≤ 100) (hmm : many ≤ 1000) (hlim : lim ≤ 100000) (hL : (goL (n + 1) [] many 1).length ≤ lim) (w : World) :
    Calls Try.prog 117 #[.int .i64 n, .int .i64 many, .int .i64 lim] w fun e w' => ∃ B c cs, e = .returned (.slice B (goL (n + 1) [] many 1).length c) ∧ Sp w w' [Rows Ty.int 30 (.slice B (goL (n + 1) [] many 1).length c) cs (goL (n + 1) [] many 1)] := by
  have Sn := (((((Sp.start w).alloc_box #[.int .i64 n] 3).alloc_box #[.int .i64 many] 3).alloc_box #[.int .i64 lim] 3).alloc_box #[.slice none 0 0] 24).alloc_box #[.func (.func 208) #[] #[.pointer (some ⟨w.heap.size + 1 + 1 + 1, 0, none⟩), .pointer (some ⟨w.heap.size + 1 + 1, 0, none⟩), .pointer (some ⟨w.heap.size + 1, 0, none⟩), .pointer (some ⟨w.heap.size, 0, none⟩), .pointer (some ⟨w.heap.size + 1 + 1 + 1 + 1, 0, none⟩)]] 161
  simp only [World.size_alloc] at Sn
  have S0 := Sn
  have S1 := (((S0.rows_nil Ty.int 30).own_nil 3 1))
  have S2 : Sp w _ (Own 3 1 (.slice none ([] : List Nat).length 0) ([] : List Nat).length ((ofN []).map (.int .i64)) :: GB (w.heap.size + 1 + 1 + 1) (w.heap.size + 1 + 1) (w.heap.size + 1) w.heap.size (w.heap.size + 1 + 1 + 1 + 1) none 0 [] [] n many lim []) := Sp.pick [0, 0, 1, 1, 1, 1, 0] S1 rfl
  have hcall := Lib.hid (grow_any n many lim (w.heap.size + 1 + 1 + 1) (w.heap.size + 1 + 1) (w.heap.size + 1) w.heap.size (w.heap.size + 1 + 1 + 1 + 1) hn hmm hlim many [] 1 none 0 none 0 [] [] w _ [] (by simp) (fun _ => rfl) (by omega) ⟨by simp, by simp⟩ (by rw [nextA_nil]; omega) (by simpa using hL) S2)
  have g0 := S2.cell (i := 6) rfl (o := 0) rfl
  clear S0 S1 hL Sn
  simp only [List.nil_append, List.length_nil, show ((1 : Nat) : Int) = 1 from rfl] at hcall
  generalize goL (n + 1) [] many 1 = GL at *
  go_enter Try.func117, Try.ntmps117
  go_wp2_with fail
  refine hcall.out.mono ?_
  rintro e w2 ⟨rfl, B, c, cs, S3⟩
  have c2 := S3.cell (i := 2) rfl (o := 0) rfl
  have S4 := Lib.hid (Sp.pick [1] S3 rfl)
  clear hcall S3 g0 S2
  go_wp2_with fail
  go_ret
  exact ⟨B, c, cs, rfl, S4.out⟩
end Go.Proofs.Ytmikconjhmhekaa

/- A store into a row of a row of rows; lists made less by one. -/
namespace Go.Proofs.Ytmikconjhmhekaa
open Go.RowKit

theorem Sp.rows_set {w0 w : World} {ps : List Asn} {i : Nat} {e : TypeId} {v : Value} {cs : List Value} {xss : List (List Int)} (h : Sp w0 w ps) (hi : ps[i]? = some (Rows Ty.int e v cs xss)) {j k : Nat} (hj : j < xss.length) (hk : k < xss[j].length) (y : Int) (hy : I64 y) :
    ∃ b off cap, cs[j]? = some (.slice (some ⟨b, off, none⟩) xss[j].length cap) ∧ w.cell? ⟨b, off + k, none⟩ = some (.int .i64 xss[j][k]) ∧ w.frozen? ⟨b, off + k, none⟩ = false ∧
      Sp w0 (w.setCell ⟨b, off + k, none⟩ (.int .i64 y)) (ps.set i (Rows Ty.int e v cs (xss.set j (xss[j].set k y)))) := by
  obtain ⟨Fi, ⟨G, rfl, hnd, hall, hown⟩, hF, hup⟩ := h.upd hi
  obtain ⟨c, d, e', F1, F2, F3, rfl, rfl, hl, h1, ⟨u, rfl, hr⟩, h3⟩ := Ty.all_split hall j hj
  obtain ⟨a, cap, rfl, hc1, hc2, hI, hh⟩ := row_int hr
  rcases hh with ⟨hn, -⟩ | ⟨hne, b, off, rfl, rfl, hcell⟩
  · rw [hn] at hk; exact absurd hk (by simp)
  have hl2 : c.length = j := by rw [hl]; exact Nat.mul_one j
  have hbk := hcell k hk
  refine ⟨b, off, cap, by subst hl2; simp, hbk.1, hbk.2 rfl, ?_⟩
  have hnd2 := List.nodup_append.1 hnd
  have hbG : b ∉ v.ownBlock.toList := fun hm => hnd2.2.2 b hm b (by simp) rfl
  have hnd3 := List.nodup_append.1 hnd2.2.1
  have hnd4 := List.nodup_append.1 hnd3.1
  have hb1 : b ∉ F1 := fun hm => hnd4.2.2 b hm b (by simp) rfl
  have hb3 : b ∉ F3 := fun hm => hnd3.2.2 b (by simp) b hm rfl
  have hsame : ∀ g, g ≠ b → (w.setCell ⟨b, off + k, none⟩ (.int .i64 y)).heap[g]? = w.heap[g]? := fun g hg => by
    have : b ≠ g := fun e => hg e.symm
    simp [World.setCell, Array.getElem?_modify, this]
  have hlen : (xss[j].set k y).length = xss[j].length := by simp
  have hnew : Ty.int.row true (w.setCell ⟨b, off + k, none⟩ (.int .i64 y)) (.slice (some ⟨b, off, none⟩) xss[j].length cap) (xss[j].set k y) [b] := by
    rw [← hlen]
    refine row_int_mk (fun x hx => ?_) (by rw [hlen]; exact hc1) hc2 (fun e => by have := congrArg List.length e; rw [hlen] at this; exact hne (List.length_eq_zero_iff.1 this)) (fun m hm => ?_)
    · rcases List.mem_or_eq_of_mem_set hx with hx | rfl
      · exact hI x hx
      · exact hy
    · have hm2 : m < xss[j].length := by rw [hlen] at hm; exact hm
      have hcm := hcell m hm2
      by_cases hmk : m = k
      · subst hmk
        rw [List.getElem_set_self]
        exact ⟨World.cell?_setCell_same' _ _ _ (by rw [hcm.1]; rfl), fun _ => by rw [World.frozen?_setCell]; exact hcm.2 rfl⟩
      · rw [List.getElem_set_ne (fun e => hmk e.symm)]
        exact ⟨by rw [World.cell?_setCell_other w _ _ _ (by simp only [ne_eq, Addr.mk.injEq]; omega)]; exact hcm.1, fun _ => by rw [World.frozen?_setCell]; exact hcm.2 rfl⟩
  have hset : xss.set j (xss[j].set k y) = xss.take j ++ (xss[j].set k y :: xss.drop (j + 1)) := by
    rw [List.set_eq_take_append_cons_drop, if_pos hj]
  refine hup _ _ (v.ownBlock.toList ++ (F1 ++ [b] ++ F3)) ?_ ⟨F1 ++ [b] ++ F3, rfl, hnd, ?_, ?_⟩ (fun g hg => .inl hg)
  · exact (Chg.refl _ _).set (p := ⟨b, off + k, none⟩) (by simp) _
  · rw [hset, List.append_assoc c, List.append_assoc F1]
    refine Ty.all_append (Ty.all_keep h1 fun g hg => hsame g (fun e => hb1 (e ▸ hg))) ?_
    exact Ty.all_append (cs := [_]) (xs := [_]) (Ty.all_one ⟨_, rfl, hnew⟩) (Ty.all_keep h3 fun g hg => hsame g (fun e => hb3 (e ▸ hg)))
  · rw [List.length_set]
    exact owns_keep hown fun g hg => hsame g (fun e => hbG (by rw [← e, hg]; simp))
/-- The lists that 'choices' tells, as indices from one on. -/
theorem combs_up (m : Nat) : ∀ (k a : Nat), combs (m + 1) k (a + 1) = (combs m k a).map fun t => t.map (· + 1)
  | 0, a => by simp [combs]
  | k + 1, a => by
    unfold combs
    rw [show m + 1 - (a + 1) = m - a by omega, List.map_flatMap]
    have hr : List.range' (a + 1) (m - a) = (List.range' a (m - a)).map (· + 1) := by
      rw [show (fun x : Nat => x + 1) = (1 + ·) by funext x; omega, List.map_add_range', Nat.add_comm 1 a]
    rw [hr, List.flatMap_map]
    congr 1
    funext v
    rw [combs_up m k (v + 1), List.map_map, List.map_map]
    rfl
theorem goL_up (m k : Nat) : goL (m + 1) [] k 1 = (combs m k 0).map fun t => ofN (t.map (· + 1)) := by
  unfold goL
  rw [show (1 : Nat) = 0 + 1 from rfl, combs_up, List.map_map]
  rfl
end Go.Proofs.Ytmikconjhmhekaa
