/- Lemmas and contracts for a law, put together out of several texts: CoA CoB CoC MdR CoD CoE MdG MdH MdI MdJ. -/
import Derived.Test.YtmikconjhmhekaaMg6
import Derived.Test.YtmikconjhmhekaaMg3
import Derived.Test.YtmikconjhmhekaaMg2
import Derived.Lib.SliceRun
import Derived.Lib.Hide
import Derived.Shelf.SlicesE.Kit
import Derived.Shelf.SlicesE.Delete
/- Contracts: chosen clauses of a Cnf, and whether they are a core. -/
namespace Go.Proofs.Ytmikconjhmhekaa
open Go.RowKit

/-- The clauses with some indices. -/
def pickC (xss : List (List Int)) (is : List Nat) : List (List Int) := is.map fun i => xss.getD i []
def ofN (is : List Nat) : List Int := is.map fun (i : Nat) => (i : Int)
/-- The clauses with some indices have no model. -/
def coreB (n : Nat) (xss : List (List Int)) (is : List Nat) : Bool := !(List.range (2 ^ n)).any (modT (pickC xss is))
theorem ofN_len (is : List Nat) : (ofN is).length = is.length := by simp [ofN]
theorem ofN_get {is : List Nat} {k : Nat} (hk : k < is.length) : (ofN is)[k]'(by rw [ofN_len]; exact hk) = (is[k] : Int) := by simp [ofN]
theorem pick_len (xss : List (List Int)) (is : List Nat) : (pickC xss is).length = is.length := by simp [pickC]
theorem pick_take {xss : List (List Int)} {is : List Nat} {k : Nat} (hk : k < is.length) : pickC xss (is.take (k + 1)) = pickC xss (is.take k) ++ [xss.getD is[k] []] := by
  unfold pickC
  rw [List.take_succ_eq_append_getElem hk, List.map_append]; rfl
theorem pick_cls {xss : List (List Int)} {is : List Nat} (hc : ∀ c ∈ xss, ClS c) (hi : ∀ i ∈ is, i < xss.length) : ∀ c ∈ pickC xss is, ClS c := by
  intro c hc'
  obtain ⟨i, hm, rfl⟩ := List.mem_map.1 hc'
  have hlt := hi i hm
  rw [List.getD_eq_getElem?_getD, List.getElem?_eq_getElem hlt]
  exact hc _ (List.getElem_mem hlt)
theorem ClsV.snoc {w : World} {us : List Value} {xss yss : List (List Int)} {i : Nat} {B : Option Addr} {c : Nat} (h : ClsV w us yss) (hi : i < xss.length) (hI : IntsAt w B xss[i]) : ClsV w (us ++ [.slice B xss[i].length c]) (yss ++ [xss.getD i []]) := by
  have hg : xss.getD i [] = xss[i] := by rw [List.getD_eq_getElem?_getD, List.getElem?_eq_getElem hi]; rfl
  rw [hg]
  exact h.append ⟨rfl, fun j hj => by
    obtain rfl : j = 0 := by simpa using hj
    exact ⟨B, c, rfl, hI⟩⟩
/-- What 'chosen' gives. -/
def PickD (w : World) (xss : List (List Int)) (is : List Nat) (e : Ending) (w' : World) : Prop :=
  ∃ E ec us, e = .returned (.slice E is.length ec) ∧ ClsV w us (pickC xss is) ∧ Sp w w' [Own 30 1 (.slice E is.length ec) is.length us]
theorem PickD.cls {w w' : World} {xss : List (List Int)} {is : List Nat} {E : Option Addr} {ec : Nat} {us : List Value} (h : ClsV w us (pickC xss is)) (S : Sp w w' [Own 30 1 (.slice E is.length ec) is.length us]) : ClsAt w' E (pickC xss is) := by
  have h2 := S.own (i := 0) rfl
  rw [← pick_len xss is] at h2
  exact (h.keep S.below).own h2

set_option maxRecDepth 100000 in
set_option maxHeartbeats 4000000 in
theorem chosen_any (vars : Int) (xss : List (List Int)) (is : List Nat) (hi : ∀ i ∈ is, i < xss.length) (hl : is.length ≤ 100000) (A D : Option Addr) (cap dc : Nat) (w : World) (hx : ClsAt w A xss) (hy : IntsAt w D (ofN is)) :
    Calls Try.prog 206 #[.agg #[.int .i64 vars, .slice A xss.length cap], .slice D is.length dc] w (PickD w xss is) := by
  obtain ⟨i0, hi0, hz0, hz1, hz2⟩ := info_parts infoRow
  have S0 := ((Sp.start w).alloc_box #[.int .i64 vars, .slice A xss.length cap] 26).own_nil 30 1
  replace S0 := Lib.hid S0
  have hX := Lib.hid hx
  have hD := Lib.hid hy
  have hii := Lib.hid hi
  have hol := Lib.hid (ofN_len is)
  clear hx hy hi
  go_enter Try.func206, Try.ntmps206
  go_wp2_with fail
  go_loopw [5, 7, 10] (fun vo _ vi wr => ∃ (k : Nat) (E : Option Addr) (ec : Nat) (us : List Value), k ≤ is.length ∧ vi = .int .i64 k ∧ vo = .slice E k ec ∧ Hid (ClsV w us (pickC xss (is.take k))) ∧ Hid (Sp w wr [Own 30 1 (.slice E k ec) k us, Box w.heap.size 26 #[.int .i64 vars, .slice A xss.length cap]])) (fun _ _ vi _ => is.length - (intOf vi).toNat)
  case atStart => exact ⟨0, none, 0, [], Nat.zero_le _, rfl, rfl, ⟨rfl, fun j hj => by simp [pickC] at hj⟩, S0⟩
  case round =>
    obtain ⟨k, E, ec, us, hk, rfl, rfl, HV, HS⟩ := hrel
    clear S0
    by_cases hlt : k < is.length
    · obtain ⟨db, doff, rfl, m0⟩ := (hD.out.grow HS.out.below).at_ k (by rw [hol.out]; exact hlt)
      rw [ofN_get hlt] at m0
      have hik := hii.out _ (List.getElem_mem hlt)
      obtain ⟨ab, aoff, Bk, ck, rfl, n0, hIk⟩ := hX.out.at_ _ hik
      have n1 := (HS.out.below.cell (World.block_lt_of_cell? _ _ n0)).trans n0
      have hV2 := HV.out.snoc (c := ck) hik hIk
      rw [← pick_take hlt] at hV2
      replace hV2 := Lib.hid hV2
      have c1 := HS.out.cell (i := 1) rfl (o := 1) rfl
      obtain ⟨lk, hv⟩ : ∃ l, xss[is[k]].length = l := ⟨_, rfl⟩
      rw [hv] at n1 hV2
      have S3 := HS.out.alloc_box #[.slice Bk lk ck] 30
      have kB := S3.cell (i := 0) rfl (o := 0) rfl
      replace S3 := Lib.hid S3
      generalize is[k] = ik at *
      clear hIk n0 HV HS
      replace hv := Lib.hid hv
      go_wp2_with (at_builtin; refine wpList_append_src rfl _ _ rfl Try.underlying24 hi0 hz0 hz1 hz2 rfl (by decide) _ _ _ rfl (S3.out.own (i := 1) rfl) _ 1 1 [.slice Bk lk ck] rfl (Src.one kB) (by simp [Value.oneCell']) ?c3 ?c4 ?_)
      case c3 => unfold maxLen; omega
      case c4 => omega
      intro vY wY hownY hgY hatY
      have S4 := Lib.hid ((S3.out.own_push (i := 1) rfl (bb _) hownY hgY (by simpa using hatY)).tail)
      obtain ⟨aY, cY, rfl⟩ := own_slice hownY
      clear S3 kB hownY hgY hatY
      go_wp2_with fail
      go_roundw
      case rel => exact ⟨k + 1, aY, cY, _, by omega, by go_num, rfl, hV2, S4⟩
      case measure => simp [intOf]; omega
    · obtain rfl : k = is.length := by omega
      have hV := HV.out
      rw [List.take_length] at hV
      replace hV := Lib.hid hV
      have S4 := Lib.hid (Sp.pick [0] HS.out rfl)
      clear HS HV
      go_wp2_with fail
      go_ret
      exact ⟨E, ec, us, rfl, hV.out, S4.out⟩

end Go.Proofs.Ytmikconjhmhekaa

/- Contracts: chosen clauses in the reference; cores on both sides. -/
namespace Go.Proofs.Ytmikconjhmhekaa
open Go.RowKit

set_option maxRecDepth 100000 in
set_option maxHeartbeats 4000000 in
theorem l5Some_any (vars : Int) (xss : List (List Int)) (is : List Nat) (hi : ∀ i ∈ is, i < xss.length) (hl : is.length ≤ 100000) (A D : Option Addr) (cap dc : Nat) (w : World) (hx : ClsAt w A xss) (hy : IntsAt w D (ofN is)) :
    Calls Try.prog 207 #[.agg #[.int .i64 vars, .slice A xss.length cap], .slice D is.length dc] w (PickD w xss is) := by
  obtain ⟨i0, hi0, hz0, hz1, hz2⟩ := info_parts infoRow
  have S0 := ((Sp.start w).alloc_box #[.int .i64 vars, .slice A xss.length cap] 26).own_made 30 1
  simp only [World.size_alloc] at S0
  replace S0 := Lib.hid S0
  have hX := Lib.hid hx
  have hD := Lib.hid hy
  have hii := Lib.hid hi
  have hol := Lib.hid (ofN_len is)
  clear hx hy hi
  go_enter Try.func207, Try.ntmps207
  go_wp2_with fail
  go_loopw [5, 6] (fun vo vi wr => ∃ (k : Nat) (E : Option Addr) (ec : Nat) (us : List Value), k ≤ is.length ∧ vi = .int .i64 k ∧ vo = .slice E k ec ∧ Hid (ClsV w us (pickC xss (is.take k))) ∧ Hid (Sp w wr [Own 30 1 (.slice E k ec) k us, Box w.heap.size 26 #[.int .i64 vars, .slice A xss.length cap]])) (fun _ vi _ => is.length - (intOf vi).toNat)
  case atStart => exact ⟨0, _, _, [], Nat.zero_le _, rfl, rfl, ⟨rfl, fun j hj => by simp [pickC] at hj⟩, S0⟩
  case round =>
    obtain ⟨k, E, ec, us, hk, rfl, rfl, HV, HS⟩ := hrel
    clear S0
    by_cases hlt : k < is.length
    · obtain ⟨db, doff, rfl, m0⟩ := (hD.out.grow HS.out.below).at_ k (by rw [hol.out]; exact hlt)
      rw [ofN_get hlt] at m0
      have hik := hii.out _ (List.getElem_mem hlt)
      obtain ⟨ab, aoff, Bk, ck, rfl, n0, hIk⟩ := hX.out.at_ _ hik
      have n1 := (HS.out.below.cell (World.block_lt_of_cell? _ _ n0)).trans n0
      have hV2 := HV.out.snoc (c := ck) hik hIk
      rw [← pick_take hlt] at hV2
      replace hV2 := Lib.hid hV2
      have c1 := HS.out.cell (i := 1) rfl (o := 1) rfl
      obtain ⟨lk, hv⟩ : ∃ l, xss[is[k]].length = l := ⟨_, rfl⟩
      rw [hv] at n1 hV2
      generalize is[k] = ik at *
      clear hIk n0 HV
      replace hv := Lib.hid hv
      go_wp2_with fail
      refine wp_region_tail_lit (S := (fun w' => w'.cell? ⟨w.heap.size, 1, none⟩ = some (.slice (some ⟨ab, aoff, none⟩) xss.length cap) ∧ w'.cell? ⟨db, doff + k, none⟩ = some (.int .i64 ik) ∧ w'.cell? ⟨ab, aoff + ik, none⟩ = some (.slice Bk lk ck))) 10 [false, false, false, false, false, false, false, false, false, false, false, false] (by kernel_rfl) (by kernel_rfl) (by kernel_rfl) ?_ ?_
      · exact ⟨c1, m0, n1⟩
      intro hSc
      (refine walkT_take (i := 0) (v := ?_) rfl (by kernel_rfl) (by decide) (by kernel_rfl) (by kernel_rfl) (fun _ _ _ h => h) (Or.inl ⟨by rfl, ?_⟩) (by assumption) ?_; rotate_left; (focus (intro w hSw; (try dsimp only at hSw); go_simp; (try with_reducible rfl); done)); (try simp only [put_rules]))
      (refine walkT_take (i := 1) (v := ?_) rfl (by kernel_rfl) (by decide) (by kernel_rfl) (by kernel_rfl) (fun _ _ _ h => h) (Or.inl ⟨by rfl, ?_⟩) (by assumption) ?_; rotate_left; (focus (intro w hSw; (try dsimp only at hSw); go_simp; (try with_reducible rfl); done)); (try simp only [put_rules]))
      (refine walkT_take (i := 2) (v := ?_) rfl (by kernel_rfl) (by decide) (by kernel_rfl) (by kernel_rfl) (fun _ _ _ h => h) (Or.inl ⟨by rfl, ?_⟩) (by assumption) ?_; rotate_left; (focus (intro w hSw; (try dsimp only at hSw); go_simp; (try with_reducible rfl); done)); (try simp only [put_rules]))
      (refine walkT_take (i := 3) (v := ?_) rfl (by kernel_rfl) (by decide) (by kernel_rfl) (by kernel_rfl) (fun _ _ _ h => h) (Or.inl ⟨by rfl, ?_⟩) (by assumption) ?_; rotate_left; (focus (intro w hSw; (try dsimp only at hSw); go_simp; (try with_reducible rfl); done)); (try simp only [put_rules]))
      (refine walkT_take (i := 4) (v := ?_) rfl (by kernel_rfl) (by decide) (by kernel_rfl) (by kernel_rfl) (fun _ _ _ h => h) (Or.inl ⟨by rfl, ?_⟩) (by assumption) ?_; rotate_left; (focus (intro w hSw; (try dsimp only at hSw); go_simp; (try with_reducible rfl); done)); (try simp only [put_rules]))
      (refine walkT_take (i := 5) (v := ?_) rfl (by kernel_rfl) (by decide) (by kernel_rfl) (by kernel_rfl) (fun _ _ _ h => h) (Or.inl ⟨by rfl, ?_⟩) (by assumption) ?_; rotate_left; (focus (intro w hSw; (try dsimp only at hSw); go_simp; (try with_reducible rfl); done)); (try simp only [put_rules]))
      (refine walkT_take (i := 6) (v := ?_) rfl (by kernel_rfl) (by decide) (by kernel_rfl) (by kernel_rfl) (fun _ _ _ h => h) (Or.inl ⟨by rfl, ?_⟩) (by assumption) ?_; rotate_left; (focus (intro w hSw; (try dsimp only at hSw); go_simp; (try with_reducible rfl); done)); (try simp only [put_rules]))
      (refine walkT_take (i := 7) (v := ?_) rfl (by kernel_rfl) (by decide) (by kernel_rfl) (by kernel_rfl) (fun _ _ _ h => h) (Or.inl ⟨by rfl, ?_⟩) (by assumption) ?_; rotate_left; (focus (intro w hSw; (try dsimp only at hSw); go_simp; (try with_reducible rfl); done)); (try simp only [put_rules]))
      (refine walkT_take (i := 8) (v := ?_) rfl (by kernel_rfl) (by decide) (by kernel_rfl) (by kernel_rfl) (fun _ _ _ h => h) (Or.inl ⟨by rfl, ?_⟩) (by assumption) ?_; rotate_left; (focus (intro w hSw; (try dsimp only at hSw); go_simp; (try with_reducible rfl); done)); (try simp only [put_rules]))
      (refine walkT_ready (rs := [9]) (by kernel_rfl) (by simp) (by decide) ?_; refine AllT.cons rfl (fun K hK => ?_) AllT.nil)
      go_simp
      have S2 := HS.out.drew
      have S3 := S2.alloc_box #[.slice Bk lk ck] 30
      have kB := S3.cell (i := 0) rfl (o := 0) rfl
      have m2 : (wr.drew.alloc (.cells #[.slice Bk lk ck] 30)).cell? ⟨db, doff + k, none⟩ = some (.int .i64 ik) := cell_alloc m0 _
      have n2 : (wr.drew.alloc (.cells #[.slice Bk lk ck] 30)).cell? ⟨ab, aoff + ik, none⟩ = some (.slice Bk lk ck) := cell_alloc n1 _
      refine hK.out _ _ ⟨S3.cell (i := 2) rfl (o := 1) rfl, m2, n2⟩ (fun hS3 => ?_)
      replace S3 := Lib.hid S3
      clear hK hSc S2 HS
      (try simp only [put_rules])
      (refine walkT_done (by kernel_rfl) ?_)
      simp only [List.drop_succ_cons, List.drop_zero]
      (refine wpList_append_src rfl _ _ rfl Try.underlying24 hi0 hz0 hz1 hz2 rfl (by decide) _ k _ rfl (S3.out.own (i := 1) rfl) _ 1 1 [.slice Bk lk ck] rfl (Src.one kB) (by simp [Value.oneCell']) (by unfold maxLen; omega) (by omega) ?_; intro vY wY hownY hgY hatY)
      have S4 := Lib.hid ((S3.out.own_push (i := 1) rfl (bb _) hownY hgY hatY).tail)
      obtain ⟨aY, cY, rfl⟩ := own_slice hownY
      clear S3 kB hownY hgY hatY m2 n2 hS3
      go_wp2_with fail
      go_roundw
      case rel => exact ⟨k + 1, aY, cY, _, by omega, by go_num, rfl, hV2, S4⟩
      case measure => simp [intOf]; omega
    · obtain rfl : k = is.length := by omega
      have hV := HV.out
      rw [List.take_length] at hV
      replace hV := Lib.hid hV
      have S4 := Lib.hid (Sp.pick [0] HS.out rfl)
      clear HS HV
      go_wp2_with fail
      go_ret
      exact ⟨E, ec, us, rfl, hV.out, S4.out⟩

set_option maxRecDepth 100000 in
set_option maxHeartbeats 4000000 in
theorem isCore_any (n : Nat) (hn : n ≤ 12) (xss : List (List Int)) (hc : ∀ c ∈ xss, ClS c) (is : List Nat) (hi : ∀ i ∈ is, i < xss.length) (hl : is.length ≤ 100000) (A D : Option Addr) (cap dc : Nat) (w : World) (hx : ClsAt w A xss) (hy : IntsAt w D (ofN is)) :
    Calls Try.prog 113 #[.agg #[.int .i64 n, .slice A xss.length cap], .slice D is.length dc] w fun e w' => e = .returned (.bool (coreB n xss is)) ∧ Below w.heap.size w w' := by
  have S0 := (Sp.start w).alloc_box #[.int .i64 n, .slice A xss.length cap] 26
  have c0 := S0.cell (i := 0) rfl (o := 0) rfl
  have c1 := S0.cell (i := 0) rfl (o := 1) rfl
  have S1 := S0.drew
  have hch := Lib.hid (chosen_any n xss is hi hl A D cap dc _ (hx.grow S1.below) (hy.grow S1.below))
  have hpl := Lib.hid (pick_len xss is)
  have hpc := Lib.hid (pick_cls hc hi)
  replace S1 := Lib.hid S1
  have hcb : Hid (coreB n xss is = !(List.range (2 ^ n)).any (modT (pickC xss is))) := rfl
  clear S0 hx hy hi hc
  go_enter Try.func113, Try.ntmps113
  go_wp2_with fail
  refine wp_region_held_lit (S := (fun w' => w'.cell? ⟨w.heap.size, 0, none⟩ = some (.int .i64 n) ∧ w'.cell? ⟨w.heap.size, 1, none⟩ = some (.slice A xss.length cap))) 8 [false, false, false, false, false, false, false, false] (by kernel_rfl) (by kernel_rfl) (by kernel_rfl) ?_ ?_
  · exact ⟨c0, c1⟩
  intro hSc
  (refine wpAnyH_take (i := 0) (v := ?_) rfl (by kernel_rfl) (by kernel_rfl) (by kernel_rfl) (fun _ _ _ h => h) (Or.inl ⟨by rfl, ?_⟩) (by assumption) ?_; rotate_left; (focus (intro w hSw; (try dsimp only at hSw); go_simp; (try with_reducible rfl); done)); (try simp only [put_rules]))
  (refine wpAnyH_take (i := 1) (v := ?_) rfl (by kernel_rfl) (by kernel_rfl) (by kernel_rfl) (fun _ _ _ h => h) (Or.inl ⟨by rfl, ?_⟩) (by assumption) ?_; rotate_left; (focus (intro w hSw; (try dsimp only at hSw); go_simp; (try with_reducible rfl); done)); (try simp only [put_rules]))
  (refine wpAnyH_take (i := 2) (v := ?_) rfl (by kernel_rfl) (by kernel_rfl) (by kernel_rfl) (fun _ _ _ h => h) (Or.inl ⟨by rfl, ?_⟩) (by assumption) ?_; rotate_left; (focus (intro w hSw; (try dsimp only at hSw); go_simp; (try with_reducible rfl); done)); (try simp only [put_rules]))
  (refine wpAnyH_take (i := 3) (v := ?_) rfl (by kernel_rfl) (by kernel_rfl) (by kernel_rfl) (fun _ _ _ h => h) (Or.inl ⟨by rfl, ?_⟩) (by assumption) ?_; rotate_left; (focus (intro w hSw; (try dsimp only at hSw); go_simp; (try with_reducible rfl); done)); (try simp only [put_rules]))
  (refine wpAnyH_ready (rs := [4]) (by kernel_rfl) (by simp) ?_; refine AllReadyH.cons rfl (fun K hK => ?_) AllReadyH.nil)
  go_simp
  go_at_call 206
  refine hch.out.mono ?_
  rintro e w2 ⟨E, ec, us, rfl, hV, T⟩
  have S2 := S1.out.seq T
  have hA := PickD.cls hV T
  have hsat := satisfiable_any n hn _ hpc.out (by rw [hpl.out]; omega) E ec w2 hA
  rw [hpl.out] at hsat
  replace hsat := Lib.hid hsat
  replace S2 := Lib.hid S2
  clear hch S1 T hA hV c0 c1
  go_wp2_with fail
  refine hK.out _ _ ⟨S2.out.cell (i := 1) rfl (o := 0) rfl, S2.out.cell (i := 1) rfl (o := 1) rfl⟩ (fun hS2 => ?_)
  clear hK hSc
  (try simp only [put_rules])
  (refine wpAnyH_ready (rs := [5]) (by kernel_rfl) (by simp) ?_; refine AllReadyH.cons rfl (fun K hK => ?_) AllReadyH.nil)
  go_simp
  go_at_call 90
  refine hsat.out.mono ?_
  rintro e w3 ⟨rfl, hb3⟩
  have S3 := Lib.hid (S2.out.grow hb3)
  generalize (List.range (2 ^ n)).any (modT (pickC xss is)) = q at *
  clear hsat S2 hb3
  go_wp2_with fail
  refine hK.out _ _ ⟨S3.out.cell (i := 1) rfl (o := 0) rfl, S3.out.cell (i := 1) rfl (o := 1) rfl⟩ (fun hS3 => ?_)
  clear hK hS2
  (try simp only [put_rules])
  (refine wpAnyH_take (i := 6) (v := ?_) rfl (by kernel_rfl) (by kernel_rfl) (by kernel_rfl) (fun _ _ _ h => h) (Or.inl ⟨by rfl, ?_⟩) (by assumption) ?_; rotate_left; (focus (intro w hSw; (try dsimp only at hSw); go_simp; (try with_reducible rfl); done)); (try simp only [put_rules]))
  (refine wpAnyH_take (i := 7) (v := ?_) rfl (by kernel_rfl) (by kernel_rfl) (by kernel_rfl) (fun _ _ _ h => h) (Or.inl ⟨by rfl, ?_⟩) (by assumption) ?_; rotate_left; (focus (intro w hSw; (try dsimp only at hSw); go_simp; (try with_reducible rfl); done)); (try simp only [put_rules]))
  (refine wpAnyH_done (by kernel_rfl) ?_ _)
  have hB := Lib.hid S3.out.below
  clear S3 hS3
  go_wp2_with fail
  go_ret
  exact ⟨ret_bool hcb.out.symm, hB.out⟩

set_option maxRecDepth 100000 in
set_option maxHeartbeats 4000000 in
theorem l5Core_any (n : Nat) (hn : n ≤ 12) (xss : List (List Int)) (hc : ∀ c ∈ xss, ClS c) (is : List Nat) (hi : ∀ i ∈ is, i < xss.length) (hl : is.length ≤ 100000) (A D : Option Addr) (cap dc : Nat) (w : World) (hx : ClsAt w A xss) (hy : IntsAt w D (ofN is)) :
    Calls Try.prog 116 #[.agg #[.int .i64 n, .slice A xss.length cap], .slice D is.length dc] w fun e w' => e = .returned (.bool (coreB n xss is)) ∧ Below w.heap.size w w' := by
  have S0 := (Sp.start w).alloc_box #[.int .i64 n, .slice A xss.length cap] 26
  have c0 := S0.cell (i := 0) rfl (o := 0) rfl
  have c1 := S0.cell (i := 0) rfl (o := 1) rfl
  have S1 := S0.drew
  have hch := Lib.hid (l5Some_any n xss is hi hl A D cap dc _ (hx.grow S1.below) (hy.grow S1.below))
  have hpl := Lib.hid (pick_len xss is)
  have hpc := Lib.hid (pick_cls hc hi)
  replace S1 := Lib.hid S1
  have hge := idxP_ge (modT (pickC xss is)) (List.range (2 ^ n))
  have hcb : coreB n xss is = !(List.range (2 ^ n)).any (modT (pickC xss is)) := rfl
  rw [← hge] at hcb
  have hcb2 : Hid (coreB n xss is = decide (idxP (modT (pickC xss is)) (List.range (2 ^ n)) < 0)) := by
    unfold Hid
    rw [hcb]
    by_cases h : 0 ≤ idxP (modT (pickC xss is)) (List.range (2 ^ n))
    · rw [decide_eq_true h, decide_eq_false (by omega)]; rfl
    · rw [decide_eq_false h, decide_eq_true (by omega)]; rfl
  clear S0 hx hy hi hc hcb hge
  go_enter Try.func116, Try.ntmps116
  go_wp2_with fail
  refine wp_region_held_lit (S := (fun w' => w'.cell? ⟨w.heap.size, 0, none⟩ = some (.int .i64 n) ∧ w'.cell? ⟨w.heap.size, 1, none⟩ = some (.slice A xss.length cap))) 8 [false, false, false, false, false, false, false, false] (by kernel_rfl) (by kernel_rfl) (by kernel_rfl) ?_ ?_
  · exact ⟨c0, c1⟩
  intro hSc
  (refine wpAnyH_take (i := 0) (v := ?_) rfl (by kernel_rfl) (by kernel_rfl) (by kernel_rfl) (fun _ _ _ h => h) (Or.inl ⟨by rfl, ?_⟩) (by assumption) ?_; rotate_left; (focus (intro w hSw; (try dsimp only at hSw); go_simp; (try with_reducible rfl); done)); (try simp only [put_rules]))
  (refine wpAnyH_take (i := 1) (v := ?_) rfl (by kernel_rfl) (by kernel_rfl) (by kernel_rfl) (fun _ _ _ h => h) (Or.inl ⟨by rfl, ?_⟩) (by assumption) ?_; rotate_left; (focus (intro w hSw; (try dsimp only at hSw); go_simp; (try with_reducible rfl); done)); (try simp only [put_rules]))
  (refine wpAnyH_take (i := 2) (v := ?_) rfl (by kernel_rfl) (by kernel_rfl) (by kernel_rfl) (fun _ _ _ h => h) (Or.inl ⟨by rfl, ?_⟩) (by assumption) ?_; rotate_left; (focus (intro w hSw; (try dsimp only at hSw); go_simp; (try with_reducible rfl); done)); (try simp only [put_rules]))
  (refine wpAnyH_take (i := 3) (v := ?_) rfl (by kernel_rfl) (by kernel_rfl) (by kernel_rfl) (fun _ _ _ h => h) (Or.inl ⟨by rfl, ?_⟩) (by assumption) ?_; rotate_left; (focus (intro w hSw; (try dsimp only at hSw); go_simp; (try with_reducible rfl); done)); (try simp only [put_rules]))
  (refine wpAnyH_ready (rs := [4]) (by kernel_rfl) (by simp) ?_; refine AllReadyH.cons rfl (fun K hK => ?_) AllReadyH.nil)
  go_simp
  go_at_call 207
  refine hch.out.mono ?_
  rintro e w2 ⟨E, ec, us, rfl, hV, T⟩
  have S2 := S1.out.seq T
  have hA := PickD.cls hV T
  have hsat := l5First_any n hn _ hpc.out (by rw [hpl.out]; omega) E ec w2 hA
  rw [hpl.out] at hsat
  replace hsat := Lib.hid hsat
  replace S2 := Lib.hid S2
  clear hch S1 T hA hV c0 c1
  go_wp2_with fail
  refine hK.out _ _ ⟨S2.out.cell (i := 1) rfl (o := 0) rfl, S2.out.cell (i := 1) rfl (o := 1) rfl⟩ (fun hS2 => ?_)
  clear hK hSc
  (try simp only [put_rules])
  (refine wpAnyH_ready (rs := [5]) (by kernel_rfl) (by simp) ?_; refine AllReadyH.cons rfl (fun K hK => ?_) AllReadyH.nil)
  go_simp
  go_at_call 191
  refine hsat.out.mono ?_
  rintro e w3 ⟨rfl, hb3⟩
  have S3 := Lib.hid (S2.out.grow hb3)
  generalize idxP (modT (pickC xss is)) (List.range (2 ^ n)) = z at *
  clear hsat S2 hb3
  go_wp2_with fail
  refine hK.out _ _ ⟨S3.out.cell (i := 1) rfl (o := 0) rfl, S3.out.cell (i := 1) rfl (o := 1) rfl⟩ (fun hS3 => ?_)
  clear hK hS2
  (try simp only [put_rules])
  (refine wpAnyH_take (i := 6) (v := ?_) rfl (by kernel_rfl) (by kernel_rfl) (by kernel_rfl) (fun _ _ _ h => h) (Or.inl ⟨by rfl, ?_⟩) (by assumption) ?_; rotate_left; (focus (intro w hSw; (try dsimp only at hSw); go_simp; (try with_reducible rfl); done)); (try simp only [put_rules]))
  (refine wpAnyH_take (i := 7) (v := ?_) rfl (by kernel_rfl) (by kernel_rfl) (by kernel_rfl) (fun _ _ _ h => h) (Or.inl ⟨by rfl, ?_⟩) (by assumption) ?_; rotate_left; (focus (intro w hSw; (try dsimp only at hSw); go_simp; (try with_reducible rfl); done)); (try simp only [put_rules]))
  (refine wpAnyH_done (by kernel_rfl) ?_ _)
  have hB := Lib.hid S3.out.below
  clear S3 hS3
  go_wp2_with fail
  go_ret
  exact ⟨ret_bool hcb2.out.symm, hB.out⟩
end Go.Proofs.Ytmikconjhmhekaa

/- Cores without superfluous clauses: plain facts. -/
namespace Go.Proofs.Ytmikconjhmhekaa
open Go.RowKit

/-- Each index in turn is left out if the rest is still a core. -/
def coreGo (P : List Nat → Bool) : List Nat → List Nat → List Nat
  | kept, [] => kept
  | kept, i :: rest => if P (kept ++ rest) then coreGo P kept rest else coreGo P (kept ++ [i]) rest
theorem coreGo_yes {P : List Nat → Bool} {kept rest : List Nat} {i : Nat} (h : P (kept ++ rest) = true) : coreGo P kept (i :: rest) = coreGo P kept rest := by rw [coreGo, if_pos h]
theorem coreGo_no {P : List Nat → Bool} {kept rest : List Nat} {i : Nat} (h : P (kept ++ rest) = false) : coreGo P kept (i :: rest) = coreGo P (kept ++ [i]) rest := by rw [coreGo, if_neg (by rw [h]; decide)]
theorem skip_mid {kept rest : List Nat} {i : Nat} : (kept ++ i :: rest).eraseIdx kept.length = kept ++ rest := by
  rw [List.eraseIdx_append_of_length_le (Nat.le_refl _), Nat.sub_self]; rfl
/-- A list is ascending, within a range. -/
def AscN (m : Nat) (l : List Nat) : Prop := l.Pairwise (· < ·) ∧ ∀ i ∈ l, i < m
theorem AscN.sub {m : Nat} {l l' : List Nat} (h : AscN m l) (hs : l'.Sublist l) : AscN m l' := ⟨h.1.sublist hs, fun i hi => h.2 i (hs.subset hi)⟩
theorem coreGo_sub (P : List Nat → Bool) : ∀ (rest kept : List Nat), (coreGo P kept rest).Sublist (kept ++ rest)
  | [], kept => by rw [coreGo, List.append_nil]; exact List.Sublist.refl _
  | i :: rest, kept => by
    rw [coreGo]
    split
    · exact (coreGo_sub P rest kept).trans (List.Sublist.append_left (List.sublist_cons_self _ _) _)
    · have := coreGo_sub P rest (kept ++ [i])
      rwa [List.append_assoc] at this
theorem coreGo_kept (P : List Nat → Bool) : ∀ (rest kept : List Nat), ∃ t, coreGo P kept rest = kept ++ t ∧ t.Sublist rest
  | [], kept => ⟨[], by rw [coreGo, List.append_nil], List.Sublist.refl _⟩
  | i :: rest, kept => by
    rw [coreGo]
    split
    · obtain ⟨t, h1, h2⟩ := coreGo_kept P rest kept
      exact ⟨t, h1, h2.trans (List.sublist_cons_self _ _)⟩
    · obtain ⟨t, h1, h2⟩ := coreGo_kept P rest (kept ++ [i])
      exact ⟨i :: t, by rw [h1, List.append_assoc]; rfl, h2.cons_cons i⟩
/-- What is left is a core, if all was. -/
theorem coreGo_core {P : List Nat → Bool} : ∀ (rest kept : List Nat), P (kept ++ rest) = true → P (coreGo P kept rest) = true
  | [], kept, h => by rw [coreGo]; rwa [List.append_nil] at h
  | i :: rest, kept, h => by
    rw [coreGo]
    split
    · rename_i h2; exact coreGo_core rest kept h2
    · refine coreGo_core rest (kept ++ [i]) ?_
      rwa [List.append_assoc]
/-- None of what is left is superfluous. -/
theorem coreGo_min {P : List Nat → Bool} (hP : ∀ a b : List Nat, a.Sublist b → P a = true → P b = true) : ∀ (rest kept : List Nat), (∀ k, k < kept.length → ∀ t, t.Sublist rest → P (kept.eraseIdx k ++ t) = false) →
    ∀ k, k < (coreGo P kept rest).length → P ((coreGo P kept rest).eraseIdx k) = false
  | [], kept, h, k, hk => by
    rw [coreGo] at hk ⊢
    have := h k hk [] (List.Sublist.refl _)
    rwa [List.append_nil] at this
  | i :: rest, kept, h, k, hk => by
    rw [coreGo] at hk ⊢
    split
    · rename_i h2
      rw [if_pos h2] at hk
      exact coreGo_min hP rest kept (fun j hj t ht => h j hj t (ht.trans (List.sublist_cons_self _ _))) k hk
    · rename_i h2
      rw [if_neg h2] at hk
      refine coreGo_min hP rest (kept ++ [i]) (fun j hj t ht => ?_) k hk
      rw [List.length_append] at hj
      by_cases hjl : j < kept.length
      · rw [List.eraseIdx_append_of_lt_length hjl, List.append_assoc]
        exact h j hjl (i :: t) (ht.cons_cons i)
      · obtain rfl : j = kept.length := by simp at hj; omega
        rw [skip_mid (rest := []), List.append_nil]
        cases hb : P (kept ++ t)
        · rfl
        · exact absurd (hP _ _ (List.Sublist.append_left ht kept) hb) h2
theorem core_mono {n : Nat} {xss : List (List Int)} {a b : List Nat} (h : a.Sublist b) (ha : coreB n xss a = true) : coreB n xss b = true := by
  unfold coreB at *
  rw [Bool.not_eq_true', List.any_eq_false] at *
  intro m hm
  have h2 := ha m hm
  intro hb
  refine h2 ?_
  unfold modT pickC at *
  rw [List.all_eq_true] at *
  intro c hc
  obtain ⟨i, hi, rfl⟩ := List.mem_map.1 hc
  exact hb _ (List.mem_map.2 ⟨i, h.subset hi, rfl⟩)
theorem pick_range (xss : List (List Int)) : pickC xss (List.range xss.length) = xss := by
  unfold pickC
  apply List.ext_getElem
  · simp
  · intro i h1 h2
    simp [List.getD_eq_getElem?_getD, h2]
theorem core_all {n : Nat} {xss : List (List Int)} : coreB n xss (List.range xss.length) = !(List.range (2 ^ n)).any (modT xss) := by
  unfold coreB
  rw [pick_range]
theorem range_asc (m : Nat) : AscN m (List.range m) := ⟨List.pairwise_lt_range, fun _ hi => List.mem_range.1 hi⟩
end Go.Proofs.Ytmikconjhmhekaa

/- Contract: slices.DeleteFunc at an own row of numbers, with a function that may make memory. -/
namespace Go.Proofs.Ytmikconjhmhekaa
open Go.RowKit

theorem set_get {α : Type} {l : List α} {i : Nat} {q : α} (h : l[i]? = some q) : l.set i q = l := by
  apply List.ext_getElem?
  intro j
  rw [List.getElem?_set]
  split
  · rename_i e
    subst e
    have := (List.getElem?_eq_some_iff.1 h).1
    rw [if_pos this, h]
  · rfl
theorem set_at {α : Type} {l : List α} {i : Nat} {q : α} (h : l[i]? = some q) (p : α) : (l.set i p)[i]? = some p := by
  have := (List.getElem?_eq_some_iff.1 h).1
  rw [List.getElem?_set_self this]
theorem Sp.own_puts {w0 : World} {g cap n size : Nat} {e : TypeId} {i : Nat} : ∀ (us : List Value) (o : Nat) (w : World) (ps : List Asn) (xs : List Value), Sp w0 w ps → ps[i]? = some (Own e size (.slice (some ⟨g, 0, none⟩) n cap) n xs) → o + us.length ≤ n * size →
    ∃ xs', Sp w0 (w.setCells g o us) (ps.set i (Own e size (.slice (some ⟨g, 0, none⟩) n cap) n xs')) ∧ xs'.take o = xs.take o ∧ Chg [g] w (w.setCells g o us)
  | [], o, w, ps, xs, h, hi, _ => ⟨xs, by rw [set_get hi]; exact h, rfl, Chg.refl _ _⟩
  | u :: us, o, w, ps, xs, h, hi, hl => by
    have h1 := h.own_put hi u (o := o) (by simp at hl; omega)
    obtain ⟨xs', h2, h3, h4⟩ := Sp.own_puts us (o + 1) _ _ _ h1 (set_at hi _) (by simp at hl; omega)
    refine ⟨xs', by rw [World.setCells]; rwa [List.set_set] at h2, ?_, by rw [World.setCells]; exact ((Chg.refl [g] w).set (p := ⟨g, o, none⟩) (by simp) u).trans h4⟩
    have := congrArg (List.take o) h3
    rw [List.take_take, List.take_take, Nat.min_eq_left (by omega)] at this
    rw [this, List.take_set_of_le (Nat.le_refl _)]
theorem Sp.own_cut {w0 w : World} {g cap n m : Nat} {e : TypeId} {i : Nat} {ps : List Asn} {xs : List Value} (h : Sp w0 w ps) (hi : ps[i]? = some (Own e 1 (.slice (some ⟨g, 0, none⟩) n cap) n xs)) (hm : m ≤ n) : Sp w0 w (ps.set i (Own e 1 (.slice (some ⟨g, 0, none⟩) m cap) m (xs.take m))) := by
  obtain ⟨F, ⟨rfl, hl, hh⟩, hF, hall⟩ := h.upd hi
  refine hall _ _ [g] (Chg.refl _ _) ⟨rfl, by rw [List.length_take, hl]; omega, .inr ?_⟩ (fun b hb => .inl hb)
  rcases hh with ⟨h1, _⟩ | ⟨g', cap', cur, e1, h0, hg, hn, hmx, hc, ht⟩
  · cases h1
  · simp only [Value.slice.injEq, Option.some.injEq, Addr.mk.injEq] at e1
    obtain ⟨⟨rfl, _⟩, _, rfl⟩ := e1
    refine ⟨g, cap, cur, rfl, Nat.zero_le _, hg, by omega, hmx, hc, ?_⟩
    rw [← ht, List.take_take, Nat.mul_one, Nat.mul_one, Nat.min_eq_left hm]
/-- The state of DeleteFunc's loop: i kept elements stand ahead, from j on nothing has turned. -/
def DelInv (p : Int → Bool) (xs : List Int) (i j : Nat) (ys : List Value) : Prop :=
  i < j ∧ ys.length = xs.length ∧ ys.take i = ((xs.take j).filter fun x => !p x).map (.int .i64) ∧ i = ((xs.take j).filter fun x => !p x).length ∧ ∀ k, j ≤ k → ys[k]? = (xs.map (Value.int .i64))[k]?
theorem DelInv.start {p : Int → Bool} {xs : List Int} {k : Nat} (hk : k < xs.length) (h1 : p xs[k] = true) (h0 : (xs.take k).any p = false) : DelInv p xs k (k + 1) (xs.map (.int .i64)) := by
  have hf : ((xs.take (k + 1)).filter fun x => !p x) = xs.take k := by
    rw [List.take_succ_eq_append_getElem hk, List.filter_append, List.filter_eq_self.2]
    · simp [h1]
    · intro x hx
      have := List.any_eq_false.1 h0 x hx
      simpa using this
  exact ⟨by omega, by simp, by rw [hf, List.map_take], by rw [hf, List.length_take]; omega, fun _ _ => rfl⟩
theorem DelInv.keep {p : Int → Bool} {xs : List Int} {i j : Nat} {ys : List Value} (h : DelInv p xs i j ys) (hj : j < xs.length) (h1 : p xs[j] = false) : DelInv p xs (i + 1) (j + 1) (ys.set i (.int .i64 xs[j])) := by
  obtain ⟨a1, a2, a3, a4, a5⟩ := h
  have hf : ((xs.take (j + 1)).filter fun x => !p x) = ((xs.take j).filter fun x => !p x) ++ [xs[j]] := by
    rw [List.take_succ_eq_append_getElem hj, List.filter_append]
    simp [h1]
  refine ⟨by omega, by simp [a2], ?_, by rw [hf]; simp [← a4], fun k hk => ?_⟩
  · rw [hf, List.map_append, ← a3, List.take_succ_eq_append_getElem (by simp; omega), List.take_set_of_le (Nat.le_refl _)]
    simp
  · rw [List.getElem?_set_ne (by omega)]
    exact a5 k (by omega)
theorem DelInv.skip {p : Int → Bool} {xs : List Int} {i j : Nat} {ys : List Value} (h : DelInv p xs i j ys) (hj : j < xs.length) (h1 : p xs[j] = true) : DelInv p xs i (j + 1) ys := by
  obtain ⟨a1, a2, a3, a4, a5⟩ := h
  have hf : ((xs.take (j + 1)).filter fun x => !p x) = ((xs.take j).filter fun x => !p x) := by
    rw [List.take_succ_eq_append_getElem hj, List.filter_append]
    simp [h1]
  exact ⟨by omega, a2, by rw [hf]; exact a3, by rw [hf]; exact a4, fun k hk => a5 k (by omega)⟩

set_option maxRecDepth 100000 in
set_option maxHeartbeats 4000000 in
theorem deleteFuncI_any {g : FuncId} {cb : Array Value} {p : Int → Bool} {R : Int → Prop} (eg : Enter1 g) (xs : List Int) (B : Option Addr) (cc : Nat) (w0 w : World) (ps : List Asn)
    (S : Sp w0 w (Own 3 1 (.slice B xs.length cc) xs.length (xs.map (.int .i64)) :: ps)) (hI : ∀ x ∈ xs, I64 x) (hl : xs.length ≤ 1000000) (hR : ∀ x ∈ xs, R x)
    (hf : ∀ (x : Int) (ys : List Value) (W : World), R x → Sp w0 W (Own 3 1 (.slice B xs.length cc) xs.length ys :: ps) → Calls Try.prog g (#[.int .i64 x] ++ cb) W fun e w' => e = .returned (.bool (p x)) ∧ Below W.heap.size W w') :
    Calls Try.prog 93 #[.slice B xs.length cc, .func (.func g) #[] cb] w fun e w' => e = .returned (.slice B (xs.filter fun x => !p x).length cc) ∧
      Sp w0 w' (Own 3 1 (.slice B (xs.filter fun x => !p x).length cc) (xs.filter fun x => !p x).length ((xs.filter fun x => !p x).map (.int .i64)) :: ps) ∧ Chg (Value.slice B xs.length cc).ownBlock.toList w w' := by
  have hF : FnI R w g cb p := fun x W hx hb => hf x _ W hx (S.grow hb)
  obtain ⟨A, c, e1, hIn⟩ := ints_own (S.own (i := 0) rfl) hI
  cases e1
  have hix := Lib.hid (indexFuncI_any eg xs B cc w hIn hl hR hF)
  have eg2 := eg
  unfold Enter1 at eg2
  clear hIn hF
  cases hq : xs.any p
  · have hid : idxP p xs = -1 := by unfold idxP; rw [hq]; rfl
    have hfx : (xs.filter fun x => !p x) = xs := by
      rw [List.filter_eq_self]
      intro x hx
      have := List.any_eq_false.1 hq x hx
      simpa using this
    rw [hid] at hix
    rw [hfx]
    replace S := Lib.hid S
    clear hid hfx hf hR
    go_enter Try.func93, Try.ntmps93
    go_wp2_with fail
    refine hix.out.mono ?_
    rintro e w1 ⟨rfl, hb1⟩
    have S1 := Lib.hid (S.out.grow hb1)
    have hch := Lib.hid (Chg.of_below (F := (Value.slice B xs.length cc).ownBlock.toList) hb1)
    clear hix hb1 S
    go_wp2_with fail
    go_ret
    exact ⟨rfl, S1.out, hch.out⟩
  · have hlt : xs.findIdx p < xs.length := List.findIdx_lt_length_of_exists (by simpa using List.any_eq_true.1 hq)
    have hid : idxP p xs = (xs.findIdx p : Int) := by unfold idxP; rw [if_pos hq]
    have hyes : p xs[xs.findIdx p] = true := List.findIdx_getElem (w := hlt)
    have hbef : (xs.take (xs.findIdx p)).any p = false := by
      rw [List.any_eq_false]
      intro x hx
      obtain ⟨j, hj, rfl⟩ := List.mem_take_iff_getElem.1 hx
      have := List.not_of_lt_findIdx (xs := xs) (p := p) (i := j) (by omega)
      simpa using this
    have HD := DelInv.start hlt hyes hbef
    rw [hid] at hix
    generalize xs.findIdx p = k0 at *
    obtain ⟨gx, cap', cur, e1, -⟩ := own_block (S.own (i := 0) rfl) (by omega)
    simp only [Value.slice.injEq] at e1
    obtain ⟨rfl, -, rfl⟩ := e1
    have hcc : xs.length ≤ cc ∧ cc ≤ 9223372036854775807 := by
      obtain ⟨g', cap', cur, e1, -, -, hn, hm, -⟩ := own_block (S.own (i := 0) rfl) (by omega)
      simp only [Value.slice.injEq] at e1
      obtain ⟨-, -, rfl⟩ := e1
      exact ⟨hn, by unfold maxLen at hm; omega⟩
    have hne1 : ((k0 : Int) == -1) = false := beq_eq_false_iff_ne.2 (by omega)
    obtain ⟨n, hn⟩ : ∃ n, xs.length = n := ⟨_, rfl⟩
    rw [hn] at S hix hf hlt hl hcc ⊢
    obtain ⟨zs, hzs⟩ : ∃ zs, (xs.filter fun x => !p x) = zs := ⟨_, rfl⟩
    rw [hzs]
    replace S := Lib.hid S
    replace hf := Lib.hid hf
    replace HD := Lib.hid HD
    replace hn := Lib.hid hn
    replace hzs := Lib.hid hzs
    have hRR := Lib.hid hR
    clear hid hyes hbef hq hR hI
    go_enter Try.func93, Try.ntmps93
    go_wp2_with fail
    refine hix.out.mono ?_
    rintro e w1 ⟨rfl, hb1⟩
    have S1 := Lib.hid (S.out.grow hb1)
    have hch := Lib.hid (Chg.of_below (F := [gx]) hb1)
    clear hix hb1 S
    go_wp2_with fail
    go_loopw [5, 6, 7] (fun vi vj _ wr => ∃ (i j : Nat) (ys : List Value), i < j ∧ j ≤ n ∧ vi = .int .i64 i ∧ vj = .int .i64 j ∧ Hid (DelInv p xs i j ys) ∧ Hid (Sp w0 wr (Own 3 1 (.slice (some ⟨gx, 0, none⟩) n cc) n ys :: ps)) ∧ Hid (Chg [gx] w wr)) (fun _ vj _ _ => n - (intOf vj).toNat)
    case atStart => exact ⟨k0, k0 + 1, _, by omega, by omega, rfl, by go_num, HD, S1, hch⟩
    case round =>
      obtain ⟨i, j, ys, hij, hjn, rfl, rfl, HI, HS, HC⟩ := hrel
      clear S1 hch HD hlt hne1
      by_cases hlt : j < n
      · have hltz : decide ((j : Int) < (n : Int)) = true := decide_eq_true (Int.ofNat_lt.2 hlt)
        have hjx : j < xs.length := by rw [hn.out]; exact hlt
        obtain ⟨g', cap', cur, e1, -, hh, -, -, -, ht⟩ := own_block (HS.out.own (i := 0) rfl) (by omega)
        simp only [Value.slice.injEq, Option.some.injEq, Addr.mk.injEq] at e1
        obtain ⟨⟨rfl, -⟩, -, rfl⟩ := e1
        have m0 := (own_at hh ht (o := j) (by omega)).1
        rw [HI.out.2.2.2.2 j (Nat.le_refl _), List.getElem?_map, List.getElem?_eq_getElem hjx] at m0
        have f0 := (own_at hh ht (o := i) (by omega)).2
        have hil : i < ys.length := by rw [HI.out.2.1, hn.out]; omega
        have n0 := (own_at hh ht (o := i) (by omega)).1
        rw [List.getElem?_eq_getElem hil] at n0
        obtain ⟨x, hx⟩ : ∃ x, xs[j] = x := ⟨_, rfl⟩
        have hRx := hRR.out _ (List.getElem_mem hjx)
        have hkp := fun h => HI.out.keep hjx h
        have hsk := fun h => HI.out.skip hjx h
        rw [hx] at m0 hRx hkp hsk
        have hcall := Lib.hid (hf.out x ys wr hRx HS.out)
        have hS2 := Lib.hid (fun W (h : Below wr.heap.size wr W) => (HS.out.grow h).own_put (i := 0) rfl (.int .i64 x) (o := i) (by omega))
        replace hkp := Lib.hid hkp
        replace hsk := Lib.hid hsk
        replace hx := Lib.hid hx
        simp only [Option.map_some] at m0
        generalize ys[i] = old at n0
        generalize p x = q at *
        clear hh ht hil hRx
        cases q
        · have HI2 := Lib.hid (hkp.out rfl)
          clear hkp hsk
          go_wp2_with fail
          refine hcall.out.mono ?_
          rintro e w2 ⟨rfl, hb2⟩
          have S3 := Lib.hid (hS2.out _ hb2)
          have n2 := ((bcell hb2).1 _ _ (World.block_lt_of_cell? _ _ n0)).trans n0
          have f2 := ((bcell hb2).2 gx i (World.block_lt_of_cell? _ _ n0)).trans f0
          have HC2 := Lib.hid ((HC.out.then hb2).set (p := ⟨gx, i, none⟩) (by simp) (.int .i64 x))
          clear hcall hb2 HS HC hS2 m0 n0 f0
          go_wp2_with fail
          go_roundw
          case rel => exact ⟨i + 1, j + 1, _, by omega, by omega, by go_num, by go_num, HI2, S3, HC2⟩
          case measure => simp [intOf]; omega
        · have HI2 := Lib.hid (hsk.out rfl)
          clear hkp hsk
          go_wp2_with fail
          refine hcall.out.mono ?_
          rintro e w2 ⟨rfl, hb2⟩
          have S3 := Lib.hid (HS.out.grow hb2)
          have HC2 := Lib.hid (HC.out.then hb2)
          clear hcall hb2 HS HC hS2 m0 n0 f0
          go_wp2_with fail
          go_roundw
          case rel => exact ⟨i, j + 1, _, by omega, by omega, rfl, by go_num, HI2, S3, HC2⟩
          case measure => simp [intOf]; omega
      · obtain rfl : j = n := by omega
        have hltz : decide ((j : Int) < (j : Int)) = false := by simp
        obtain ⟨g', cap', cur, e1, -, hh, -, -, -, ht⟩ := own_block (HS.out.own (i := 0) rfl) (by omega)
        simp only [Value.slice.injEq, Option.some.injEq, Addr.mk.injEq] at e1
        obtain ⟨⟨rfl, -⟩, -, rfl⟩ := e1
        have hcl : ∀ ty, (Builtin.clear_ #[30] ty #[.slice (some ⟨gx, i, none⟩) (j - i) (cc - i)]).run Try.prog wr = .ok (.tuple #[]) (wr.setCells gx i (List.replicate (j - i) (.int .i64 0))) := fun ty =>
          Lib.run_clear_slice wr _ _ ty _ Try.underlying30 Try.zeroValue3 (by simp [Value.cells]) rfl gx i _ _ (by omega)
            (fun t ht' => by
              have hlen : i + t < ys.length := by rw [HI.out.2.1, hn.out]; omega
              rw [(own_at hh ht (o := i + t) (by omega)).1, List.getElem?_eq_getElem hlen]; rfl)
            (fun t ht' => (own_at hh ht (o := i + t) (by omega)).2)
        obtain ⟨ys', S2, hy2, hc2⟩ := HS.out.own_puts (i := 0) (List.replicate (j - i) (.int .i64 0)) i wr _ _ rfl (by simp; omega)
        have S3 := S2.own_cut (i := 0) (m := i) rfl (by omega)
        obtain ⟨a1, a2, a3, a4, a5⟩ := HI.out
        have htk : xs.take j = xs := by rw [← hn.out, List.take_length]
        rw [hy2, a3, htk, hzs.out] at S3
        rw [htk, hzs.out] at a4
        have hzl := Lib.hid a4
        have hch2 := Lib.hid (HC.out.trans hc2)
        replace S3 := Lib.hid S3
        clear HI HS HC hh ht S2 hy2 hc2 a1 a2 a3 a4 a5 htk
        go_wp2_with fail
        go_ret
        exact ⟨by rw [← hzl.out]; rfl, by rw [← hzl.out]; exact S3.out, hch2.out⟩
end Go.Proofs.Ytmikconjhmhekaa

/- Contracts: lists of indices in the program: all of them, one left out, the place of one. -/
namespace Go.Proofs.Ytmikconjhmhekaa
open Go.RowKit Go.Shelf

def delRenN : Go.Shelf.Ren := ⟨fun | 45 => 204 | n => n, fun | 22 => 30 | 23 => 3 | n => n, fun | n => n⟩

theorem delLayN : SlLaysE.n45 Try.prog delRenN := {
  mixed := by kernel_rfl
  f45 := ⟨Try.f204.name, by kernel_rfl, Try.func204.trans (congrArg some (by kernel_rfl))⟩
  t0 := Try.underlying0
  a0 := Try.isAgg0
  z0 := Try.sizeOf0
  v0 := Try.zeroValue0
  t3 := Try.underlying3
  a3 := Try.isAgg3
  z3 := Try.sizeOf3
  v3 := Try.zeroValue3
  t4 := Try.underlying4
  a4 := Try.isAgg4
  z4 := Try.sizeOf4
  v4 := Try.zeroValue4
  t22 := Try.underlying30
  a22 := Try.isAgg30
  z22 := Try.sizeOf30
  v22 := Try.zeroValue30
  a23 := Try.isAgg3
  z23 := Try.sizeOf3 }

theorem putCells_take {α : Type} [Inhabited α] (enc : α → Value) (d : Array α) (c : Array Value) {m : Nat} (hm : m ≤ d.size) (hd : d.size ≤ c.size) : (Sort.putCells enc 0 d c).toList.take m = (d.toList.map enc).take m := by
  unfold Sort.putCells
  apply List.ext_getElem
  · simp; omega
  · intro i h1 h2
    have hi : i < m := by simp at h1; omega
    have hid : i < d.size := by omega
    simp [hid]
/-- A row that is laid anew and cut. -/
theorem Sp.own_putRow {α : Type} [Inhabited α] {w0 w : World} {g cap n m q i : Nat} {e : TypeId} {ps : List Asn} {xs : List Value} (enc : α → Value) (d : Array α) (h : Sp w0 w ps) (hi : ps[i]? = some (Own e 1 (.slice (some ⟨g, 0, none⟩) n cap) n xs)) (hd : d.size ≤ n) (hm : m ≤ d.size) (hn : 0 < n) :
    Sp w0 (Sort.putRow enc (Sort.ahead w q) g 0 d) (ps.set i (Own e 1 (.slice (some ⟨g, 0, none⟩) m cap) m ((d.toList.map enc).take m))) := by
  obtain ⟨F, ⟨rfl, hh⟩, hF, hall⟩ := h.upd hi
  obtain ⟨g', cap', cur, e1, h0, hg, hnc, hmx, hc, ht⟩ := own_block hh hn
  simp only [Value.slice.injEq, Option.some.injEq, Addr.mk.injEq] at e1
  obtain ⟨⟨rfl, _⟩, _, rfl⟩ := e1
  refine hall _ _ [g] ⟨rfl, rfl, rfl, by simp [Sort.putRow, Sort.mapBlock, Sort.ahead], fun k _ hk => ?_⟩ ⟨rfl, ?_, .inr ⟨g, cap, Sort.putCells enc 0 d cur, rfl, Nat.zero_le _, ?_, by omega, hmx, ?_, ?_⟩⟩ (fun b hb => .inl hb)
  · have hne : g ≠ k := fun e => hk (by simp [Value.ownBlock, e])
    simp only [Sort.putRow, Sort.mapBlock, Sort.ahead, Array.getElem?_modify]
    rw [if_neg hne]
  · rw [List.length_take, List.length_map, Array.length_toList]; omega
  · simp only [Sort.putRow, Sort.mapBlock, Sort.ahead, Array.getElem?_modify, if_true, hg, Option.map_some, Sort.onCells]
  · unfold Sort.putCells; simp [hc]
  · rw [Nat.mul_one]
    exact putCells_take enc d cur hm (by omega)

set_option maxRecDepth 100000 in
set_option maxHeartbeats 4000000 in
theorem cloneI_any (A : Option Addr) (n cap : Nat) (xs : List Int) (w : World) (hx : IntsAt w A xs) (hn : xs.length = n) (hl : n ≤ 1000000) (h0 : 0 < n) :
    Calls Try.prog 205 #[.slice A n cap] w fun e w' => ∃ g c, e = .returned (.slice (some ⟨g, 0, none⟩) n c) ∧ Sp w w' [Own 3 1 (.slice (some ⟨g, 0, none⟩) n c) n (xs.map (.int .i64))] := by
  obtain ⟨i0, hi, hz0, hz1, hz2⟩ := info_parts infoInt
  obtain ⟨b, off, rfl, -⟩ := hx.at_ 0 (by omega)
  have hs : Src w (some ⟨b, off, none⟩) n 1 (xs.map (.int .i64)) := .inr ⟨_, rfl, by simp [hn], fun j u hu => by
    rw [List.getElem?_map] at hu
    have hj : j < xs.length := by
      rcases Nat.lt_or_ge j xs.length with h | h
      · exact h
      · rw [List.getElem?_eq_none h] at hu; cases hu
    rw [List.getElem?_eq_getElem hj] at hu
    simp only [Option.map_some, Option.some.injEq] at hu
    rw [add_none, hx.get hj, hu]⟩
  have hnil := fun w : World => Lib.run_eql_slice_nil (P := Try.prog) w 30 3 (some ⟨b, off, none⟩) n cap 0 0 Try.underlying30
  have S0 := Lib.hid ((Sp.start w).own_made 3 1)
  have hs2 := Lib.hid (hs.grow (bal (bb w) (.cells #[] 3)))
  have h1H : Hid (∀ u ∈ xs.map (Value.int .i64), u.oneCell' = true) := fun u hu => by
    obtain ⟨x, -, rfl⟩ := List.mem_map.1 hu
    rfl
  simp only [Option.isNone_some] at hnil
  clear hx hs hn
  go_enter Try.func205, Try.ntmps205
  go_wp2_with (at_builtin; refine wpList_append_src rfl _ _ rfl Try.underlying30 hi hz0 hz1 hz2 rfl (by decide) _ _ _ rfl (S0.out.own (i := 0) rfl) _ n cap _ rfl hs2.out h1H.out ?c3 ?c4 ?_)
  case c3 => unfold maxLen; omega
  case c4 => omega
  intro v' w' hown hg hat
  have S1 := S0.out.own_push (i := 0) rfl (bb _) hown hg (by simpa using hat)
  obtain ⟨g, c, cur, rfl, -⟩ := own_block hown (by omega)
  replace S1 := Lib.hid S1
  clear hown hg hat S0 hs2 hnil
  go_wp2_with fail
  go_ret
  exact ⟨g, c, rfl, S1.out⟩

set_option maxRecDepth 100000 in
set_option maxHeartbeats 4000000 in
theorem withoutI_any (A : Option Addr) (n cap k : Nat) (xs : List Int) (w : World) (hx : IntsAt w A xs) (hn : xs.length = n) (hl : n ≤ 1000000) (hk : k < n) :
    Calls Try.prog 111 #[.slice A n cap, .int .i64 k] w fun e w' => ∃ B c, e = .returned (.slice B (n - 1) c) ∧ Sp w w' [Own 3 1 (.slice B (n - 1) c) (n - 1) ((xs.eraseIdx k).map (.int .i64))] := by
  have hcl := Lib.hid (cloneI_any A n cap xs w hx hn hl (by omega))
  have hw1 : IntKind.i64.wrap ((k : Int) + 1) = ((k + 1 : Nat) : Int) := by rw [IntWalk.i64_in _ (by omega)]; rfl
  have hxI := Lib.hid hx.2
  have hnH := Lib.hid hn
  clear hx hn
  go_enter Try.func111, Try.ntmps111
  go_wp2_with fail
  refine hcl.out.mono ?_
  rintro e w1 ⟨g, c, rfl, S1⟩
  have hdel : Calls Try.prog 204 #[.slice (some ⟨g, 0, none⟩) n c, .int .i64 k, .int .i64 ((k + 1 : Nat) : Int)] w1 fun e w' => e = .returned (.slice (some ⟨g, 0, none⟩) (n - 1) c) ∧ Sp w w' [Own 3 1 (.slice (some ⟨g, 0, none⟩) (n - 1) c) (n - 1) ((xs.eraseIdx k).map (.int .i64))] := by
    obtain ⟨g', cap', cur, e1, -, hh, hnc, hm, -, ht⟩ := own_block (S1.own (i := 0) rfl) (by omega)
    simp only [Value.slice.injEq, Option.some.injEq, Addr.mk.injEq] at e1
    obtain ⟨⟨rfl, -⟩, -, rfl⟩ := e1
    obtain ⟨i0, hi0, hz0, hz1, hz2⟩ := info_parts infoInt
    have hH : Sort.Holds (Value.int .i64) w1 g 0 xs.toArray := fun j hj => by
      have hj' : j < xs.length := by simpa using hj
      have h := own_at hh ht (o := j) (by rw [hnH.out] at hj'; omega)
      rw [getElem!_pos xs.toArray j hj, Nat.zero_add]
      exact ⟨h.1.trans (by rw [List.getElem?_map, List.getElem?_eq_getElem hj']; rfl), h.2⟩
    have hcon := AnyE.slices_Delete delLayN (Value.int .i64) (fun _ => rfl) 0 Try.zeroValue3 i0 hi0 hz1 g 0 c k (k + 1) xs.toArray w1 hH (by simp [hnH.out]; omega) (by unfold maxLen at hm; omega) (by omega) (by simp [hnH.out]; omega)
    change Calls Try.prog 204 _ _ _ at hcon
    rw [show xs.toArray.size = n by simp [hnH.out]] at hcon
    refine hcon.mono ?_
    rintro e w' ⟨rfl, q, rfl⟩
    have hers : xs.eraseIdx k = xs.take k ++ xs.drop (k + 1) := List.eraseIdx_eq_take_drop_succ ..
    have S2 := S1.own_putRow (i := 0) (q := q) (m := n - 1) (Value.int .i64) (xs.take k ++ xs.drop (k + 1) ++ List.replicate (k + 1 - k) 0).toArray rfl (by simp [hnH.out]; omega) (by simp [hnH.out]; omega) (by omega)
    have hlist : (((xs.take k ++ xs.drop (k + 1) ++ List.replicate (k + 1 - k) 0).toArray.toList.map (Value.int .i64)).take (n - 1)) = (xs.eraseIdx k).map (.int .i64) := by
      rw [hers, List.toList_toArray, List.map_append, List.take_append_of_le_length (by simp [hnH.out]; omega), List.take_of_length_le (by simp [hnH.out]; omega)]
    rw [hlist] at S2
    exact ⟨by simp, S2⟩
  replace hdel := Lib.hid hdel
  clear hcl S1
  go_wp2_with fail
  refine hdel.out.mono ?_
  rintro e w2 ⟨rfl, S2⟩
  replace S2 := Lib.hid S2
  clear hdel
  go_wp2_with fail
  go_ret
  exact ⟨_, _, rfl, S2.out⟩

set_option maxRecDepth 100000 in
set_option maxHeartbeats 4000000 in
theorem indexI_any (A : Option Addr) (n cap p : Nat) (xs : List Int) (x : Int) (w : World) (hx : IntsAt w A xs) (hn : xs.length = n) (hl : n ≤ 1000000) (hp : xs[p]? = some x) (hno : ∀ j, j < p → xs[j]? ≠ some x) :
    Calls Try.prog 112 #[.slice A n cap, .int .i64 x] w fun e w' => e = .returned (.int .i64 p) ∧ w' = w := by
  have hpl : p < n := by rw [← hn]; exact (List.getElem?_eq_some_iff.1 hp).1
  have hI := Lib.hid hx
  have hnH := Lib.hid hn
  have hpH := Lib.hid hp
  have hnoH := Lib.hid hno
  clear hx hn hp hno
  go_enter Try.func112, Try.ntmps112
  go_wp2_with fail
  go_loopw [5, 8] (fun _ vi wr => ∃ k : Nat, k ≤ p ∧ vi = .int .i64 k ∧ wr = w) (fun _ vi _ => n - (intOf vi).toNat)
  case atStart => exact ⟨0, Nat.zero_le _, rfl, rfl⟩
  case round =>
    obtain ⟨k, hk, rfl, rfl⟩ := hrel
    have hkn : k < n := by omega
    have hkx : k < xs.length := by rw [hnH.out]; exact hkn
    obtain ⟨b, off, rfl, m0⟩ := hI.out.at_ k hkx
    by_cases hkp : k = p
    · subst hkp
      have hv : xs[k] = x := by have := hpH.out; rw [List.getElem?_eq_getElem hkx] at this; simpa using this
      rw [hv] at m0
      have d1 : (x == x) = true := by simp
      clear hv
      go_wp2_with fail
      go_ret
      exact ⟨rfl, rfl⟩
    · have hv : xs[k] ≠ x := fun e => hnoH.out k (by omega) (by rw [List.getElem?_eq_getElem hkx, e])
      generalize xs[k] = y at *
      have d1 : (x == y) = false := by simpa using fun e => hv e.symm
      have d2 : decide (x = y) = false := decide_eq_false fun e => hv e.symm
      clear hv
      go_wp2_with fail
      go_roundw
      case rel => exact ⟨k + 1, by omega, by go_num, by first | rfl | trivial⟩
      case measure => simp [intOf]; omega
end Go.Proofs.Ytmikconjhmhekaa

/- Contract: numbers from one on; plain facts on lists of indices. -/
namespace Go.Proofs.Ytmikconjhmhekaa
open Go.RowKit

set_option maxRecDepth 100000 in
set_option maxHeartbeats 4000000 in
theorem upTo_any (n : Nat) (hn : n ≤ 1000) (w : World) :
    Calls Try.prog 110 #[.int .i64 n] w fun e w' => ∃ B c, e = .returned (.slice B n c) ∧ Sp w w' [Own 3 1 (.slice B n c) n ((List.range n).map fun (j : Nat) => .int .i64 ((j : Int) + 1))] := by
  have S0 := Lib.hid ((Sp.start w).own_nil 3 1)
  obtain ⟨i0, hi, hz0, hz1, hz2⟩ := info_parts infoInt
  go_enter Try.func110, Try.ntmps110
  go_wp2_with fail
  go_loopw [3, 4] (fun vo vi wr => ∃ (k : Nat) (v : Int) (B : Option Addr) (cc : Nat), k ≤ n ∧ vi = .int .i64 v ∧ Hid (v = (k : Int) + 1) ∧ vo = .slice B k cc ∧ Hid (Sp w wr [Own 3 1 (.slice B k cc) k ((List.range k).map fun (j : Nat) => .int .i64 ((j : Int) + 1))])) (fun _ vi _ => n + 1 - (intOf vi).toNat)
  case atStart => exact ⟨0, 1, _, _, Nat.zero_le _, rfl, rfl, rfl, S0⟩
  case round =>
    obtain ⟨k, v, B, cc, hk, rfl, hve, rfl, HS⟩ := hrel
    clear S0
    have hve' := hve.out
    by_cases hlt : k < n
    · have hle : v ≤ (n : Int) := by omega
      have hw4 : IntKind.i64.wrap (v + 1) = v + 1 := by rw [IntWalk.i64_in _ (by omega)]
      have hk12 : k ≤ 1000 := by omega
      have hsn : Hid (((List.range (k + 1)).map fun (j : Nat) => Value.int .i64 ((j : Int) + 1)) = ((List.range k).map fun (j : Nat) => Value.int .i64 ((j : Int) + 1)) ++ [.int .i64 v]) := by
        unfold Hid; rw [List.range_succ, List.map_append, hve']; rfl
      clear hve'
      have S2 := HS.out.alloc_box #[.int .i64 v] 3
      have kB := S2.cell (i := 0) rfl (o := 0) rfl
      replace S2 := Lib.hid S2
      clear HS
      go_wp2_with (at_builtin; refine wpList_append_src rfl _ _ rfl Try.underlying30 hi hz0 hz1 hz2 rfl (by decide) _ _ _ rfl (S2.out.own (i := 1) rfl) _ 1 1 [.int .i64 v] rfl (Src.one kB) (by simp [Value.oneCell']) ?c3 ?c4 ?_)
      case c3 => unfold maxLen; omega
      case c4 => omega
      intro vY wY hownY hgY hatY
      have S4 := (S2.out.own_push (i := 1) rfl (bb _) hownY hgY (by simpa using hatY)).tail
      obtain ⟨aY, cY, rfl⟩ := own_slice hownY
      have HS3 : Hid (Sp w wY [Own 3 1 (.slice aY (k + 1) cY) (k + 1) ((List.range (k + 1)).map fun (j : Nat) => .int .i64 ((j : Int) + 1))]) := by
        unfold Hid; rw [hsn.out]; exact S4
      clear S2 S4 kB hownY hgY hatY hsn
      go_wp2_with fail
      go_roundw
      case rel => exact ⟨k + 1, v + 1, aY, cY, by omega, rfl, by have := hve.out; unfold Hid; omega, rfl, HS3⟩
      case measure => have := hve.out; simp [intOf]; omega
    · obtain rfl : k = n := by omega
      have hgt : ¬ v ≤ (k : Int) := by omega
      clear hve'
      go_wp2_with fail
      go_ret
      exact ⟨B, cc, rfl, HS.out⟩

/-- The first k numbers made less by one. -/
def decL (n k : Nat) : List Value := (List.range n).map fun (j : Nat) => .int .i64 (if j < k then (j : Int) else (j : Int) + 1)
theorem decL_zero (n : Nat) : decL n 0 = (List.range n).map fun (j : Nat) => .int .i64 ((j : Int) + 1) := by simp [decL]
theorem decL_all (n : Nat) : decL n n = (ofN (List.range n)).map (.int .i64) := by
  unfold decL ofN
  rw [List.map_map]
  apply List.map_congr_left
  intro j hj
  have := List.mem_range.1 hj
  simp [this]
theorem decL_len (n k : Nat) : (decL n k).length = n := by simp [decL]
theorem decL_at {n k : Nat} (h : k < n) : (decL n k)[k]? = some (.int .i64 ((k : Int) + 1)) := by simp [decL, h]
theorem decL_set {n k : Nat} (h : k < n) : (decL n k).set k (.int .i64 (k : Int)) = decL n (k + 1) := by
  apply List.ext_getElem?
  intro j
  rw [List.getElem?_set]
  by_cases hj : k = j
  · subst hj
    simp [decL, h]
  · rw [if_neg hj]
    by_cases hjn : j < n
    · simp only [decL, List.getElem?_map, List.getElem?_range hjn, Option.map_some]
      by_cases hjk : j < k
      · rw [if_pos hjk, if_pos (by omega)]
      · rw [if_neg hjk, if_neg (by omega)]
    · rw [List.getElem?_eq_none (by rw [decL_len]; omega), List.getElem?_eq_none (by rw [decL_len]; omega)]
/-- What is told of a core. -/
def coreOk (n : Nat) (vars : Int) (xss : List (List Int)) : Bool := goodB vars xss && !(List.range (2 ^ n)).any (modT xss)
def coreL (n : Nat) (xss : List (List Int)) : List Nat := coreGo (coreB n xss) [] (List.range xss.length)
theorem ofN_ok {m : Nat} (hm : m ≤ 1000000) {l : List Nat} (h : AscN m l) : ∀ x ∈ ofN l, I64 x := by
  intro x hx
  obtain ⟨i, hi, rfl⟩ := List.mem_map.1 hx
  have := h.2 i hi
  unfold I64; omega
theorem mid_at {kept rest : List Nat} {i : Nat} : (ofN (kept ++ i :: rest))[kept.length]? = some (i : Int) := by
  unfold ofN
  rw [List.getElem?_map, List.getElem?_append_right (Nat.le_refl _), Nat.sub_self]; rfl
theorem mid_no {m : Nat} {kept rest : List Nat} {i : Nat} (h : AscN m (kept ++ i :: rest)) : ∀ j, j < kept.length → (ofN (kept ++ i :: rest))[j]? ≠ some (i : Int) := by
  intro j hj e
  have hlt : kept[j] < i := (List.pairwise_append.1 h.1).2.2 _ (List.getElem_mem hj) i (by simp)
  unfold ofN at e
  rw [List.getElem?_map, List.getElem?_append_left hj, List.getElem?_eq_getElem hj] at e
  simp only [Option.map_some, Option.some.injEq, Int.natCast_inj] at e
  omega
theorem ofN_erase {kept rest : List Nat} {i : Nat} : (ofN (kept ++ i :: rest)).eraseIdx kept.length = ofN (kept ++ rest) := by
  unfold ofN
  rw [List.map_append, List.map_cons, List.map_append]
  have h : ((kept.map fun (i : Nat) => (i : Int)) ++ (i : Int) :: rest.map fun (i : Nat) => (i : Int)).eraseIdx (kept.map fun (i : Nat) => (i : Int)).length = (kept.map fun (i : Nat) => (i : Int)) ++ rest.map fun (i : Nat) => (i : Int) := by
    rw [List.eraseIdx_append_of_length_le (Nat.le_refl _), Nat.sub_self]; rfl
  rwa [List.length_map] at h
theorem range_front {n i : Nat} (h : i < n) : List.range' i (n - i) = i :: List.range' (i + 1) (n - (i + 1)) := by
  rw [show n - i = (n - (i + 1)) + 1 by omega, List.range'_succ]
theorem asc_len_from {m : Nat} : ∀ (l : List Nat) (a : Nat), l.Pairwise (· < ·) → (∀ x ∈ l, a ≤ x ∧ x < m) → a ≤ m → l.length + a ≤ m
  | [], a, _, _, h => by simpa using h
  | x :: l, a, hp, hx, _ => by
    rw [List.pairwise_cons] at hp
    have h0 := hx x (by simp)
    have := asc_len_from l (x + 1) hp.2 (fun y hy => ⟨hp.1 y hy, (hx y (List.mem_cons_of_mem _ hy)).2⟩) h0.2
    rw [List.length_cons]; omega
theorem asc_len {m : Nat} {l : List Nat} (h : AscN m l) : l.length ≤ m := by
  have := asc_len_from l 0 h.1 (fun x hx => ⟨Nat.zero_le _, h.2 x hx⟩) (Nat.zero_le _)
  omega
/-- A row of numbers with room, and whether it is told. -/
def IAnsC (w : World) (ok : Bool) (zs : List Int) (e : Ending) (w' : World) : Prop :=
  ∃ B cap, e = .returned (.tuple #[.slice B zs.length cap, .bool ok]) ∧ IntsAt w' B zs ∧ zs.length ≤ cap ∧ Below w.heap.size w w'
end Go.Proofs.Ytmikconjhmhekaa

/- Contracts: counted models and the first one, in the program. -/
namespace Go.Proofs.Ytmikconjhmhekaa
open Go.RowKit

set_option maxRecDepth 100000 in
set_option maxHeartbeats 4000000 in
theorem countCnfModels_any (vars : Int) (v : Value) (xss : List (List Int)) (F : List Nat) (w : World) (hx : (Ty.slice Ty.int).row false w v xss F) (h1 : goodB vars xss = true) :
    Calls Try.prog 11 #[.agg #[.int .i64 vars, v]] w fun e w' => e = .returned (.tuple #[.int .i64 (cntP (modT xss) (2 ^ vars.toNat)), .bool true]) ∧ Below w.heap.size w w' := by
  obtain ⟨A, cap, rfl, hI⟩ := cls_row hx
  have hg := good_cnf h1
  obtain ⟨n, rfl⟩ := Int.eq_ofNat_of_zero_le hg.1.1
  rw [show (n : Int).toNat = n by omega]
  have hn : n ≤ 12 := by omega
  have hp := (pow12 hn).2
  have S0 := (Sp.start w).alloc_box #[.int .i64 n, .slice A xss.length cap] 26
  have hcall := Lib.hid (implIsCnf_any n _ xss F _ (Ty.row_below hx S0.below (Ty.row_lt hx)))
  have eg : Enter1 84 := enters_of Try.func84 (by kernel_rfl) rfl
  have hmod := Lib.hid (fun W (S : Sp w W [Box w.heap.size 26 #[.int .i64 n, .slice A xss.length cap]]) =>
    models_any (cb := #[.pointer (some ⟨W.heap.size, 0, none⟩)]) eg n hn xss hg.2.2.2 (by omega) A cap (W.alloc (.cells #[.int .i64 0] 3)) [W.heap.size] (by simp)
    (fun k V => Sp w V [Box W.heap.size 3 #[.int .i64 (cntP (modT xss) k)], Box w.heap.size 26 #[.int .i64 n, .slice A xss.length cap]])
    (S.alloc_box #[.int .i64 0] 3) (fun k V V' h hb => h.grow hb) (fun k V h => hI.grow h.below)
    (fun k V hm h => by rw [cntP_no hm]; exact h)
    (fun k V hk hm h => by
      have f0 := h.frozen (i := 0) rfl 0
      have c0 := h.cell (i := 0) rfl (o := 0) rfl
      have hcl := cntP_le (modT xss) k
      have hcn := Lib.hid (cntP_yes hm)
      have S1 := Lib.hid (h.store (i := 0) rfl 0 (.int .i64 ((cntP (modT xss) k : Int) + 1)))
      have hch := Lib.hid ((Chg.refl [W.heap.size] V).set (p := ⟨W.heap.size, 0, none⟩) (by simp) (.int .i64 ((cntP (modT xss) k : Int) + 1)))
      have hlt : k < 4096 := Nat.lt_of_lt_of_le hk hp
      generalize cntP (modT xss) k = c at *
      have hwc : IntKind.i64.wrap ((c : Int) + 1) = (c : Int) + 1 := IntWalk.i64_in _ (by omega)
      clear h hcl hk hm
      show Calls Try.prog 84 #[.int .i64 k, .pointer (some ⟨W.heap.size, 0, none⟩)] V _
      go_enter Try.func84, Try.ntmps84
      go_wp2_with fail
      go_ret
      exact ⟨true, rfl, hch.out, by rw [if_pos rfl, hcn.out]; exact S1.out⟩))
  replace S0 := Lib.hid S0
  have c0 := S0.out.cell (i := 0) rfl (o := 0) rfl
  have c1 := S0.out.cell (i := 0) rfl (o := 1) rfl
  rw [h1] at hcall
  clear eg hx hI hg h1
  generalize 2 ^ n = N at *
  go_enter Try.func11, Try.ntmps11
  go_wp2_with fail
  refine hcall.out.mono ?_
  rintro e w1 ⟨rfl, hb1⟩
  have S1 := Lib.hid (S0.out.grow hb1)
  have SA := S1.out.alloc_box #[.int .i64 0] 3
  have d0 := SA.cell (i := 1) rfl (o := 0) rfl
  have d1 := SA.cell (i := 1) rfl (o := 1) rfl
  clear SA
  have hm2 := Lib.hid (hmod.out _ S1.out)
  clear hcall hmod S0 S1 c0 c1 hb1
  go_wp2_with fail
  refine hm2.out.mono ?_
  rintro e w2 ⟨rfl, S2⟩
  have d2 := S2.cell (i := 0) rfl (o := 0) rfl
  have hB := S2.below
  clear hm2 S2 d0 d1
  go_wp2_with fail
  go_ret2
  exact ⟨rfl, hB⟩

set_option maxHeartbeats 2000000 in
theorem countCnfNo_any (vars : Int) (v : Value) (xss : List (List Int)) (F : List Nat) (w : World) (hx : (Ty.slice Ty.int).row false w v xss F) (h1 : goodB vars xss = false) :
    Calls Try.prog 11 #[.agg #[.int .i64 vars, v]] w fun e w' => e = .returned (.tuple #[.int .i64 0, .bool false]) ∧ Below w.heap.size w w' := by
  obtain ⟨A, cap, rfl, hI⟩ := cls_row hx
  have S0 := (Sp.start w).alloc_box #[.int .i64 vars, .slice A xss.length cap] 26
  have hcall := Lib.hid (implIsCnf_any vars _ xss F _ (Ty.row_below hx S0.below (Ty.row_lt hx)))
  replace S0 := Lib.hid S0
  have c0 := S0.out.cell (i := 0) rfl (o := 0) rfl
  have c1 := S0.out.cell (i := 0) rfl (o := 1) rfl
  rw [h1] at hcall
  clear hx hI h1
  go_enter Try.func11, Try.ntmps11
  go_wp2_with fail
  refine hcall.out.mono ?_
  rintro e w1 ⟨rfl, hb1⟩
  have hB := Lib.hid (S0.out.grow hb1).below
  clear hcall S0 c0 c1 hb1
  go_wp2_with fail
  go_ret2
  exact ⟨rfl, hB.out⟩

theorem idx_next {p : Nat → Bool} {k : Nat} (h : p k = false) : idxP p (List.range (k + 1)) = idxP p (List.range k) := by
  unfold idxP
  rw [rany_next, h, Bool.or_false]
  cases ha : (List.range k).any p
  · rfl
  · rw [if_pos rfl, if_pos rfl, List.range_succ, List.findIdx_append, if_pos (List.findIdx_lt_length_of_exists (by simpa using List.any_eq_true.1 ha))]

set_option maxRecDepth 100000 in
set_option maxHeartbeats 4000000 in
theorem firstModel_any (vars : Int) (v : Value) (xss : List (List Int)) (F : List Nat) (w : World) (hx : (Ty.slice Ty.int).row false w v xss F) :
    Calls Try.prog 16 #[.agg #[.int .i64 vars, v]] w fun e w' => e = .returned (.tuple #[.int .i64 (if goodB vars xss && (List.range (2 ^ vars.toNat)).any (modT xss) then idxP (modT xss) (List.range (2 ^ vars.toNat)) else 0), .bool (goodB vars xss && (List.range (2 ^ vars.toNat)).any (modT xss))]) ∧ Below w.heap.size w w' := by
  obtain ⟨A, cap, rfl, hI⟩ := cls_row hx
  have S0 := (Sp.start w).alloc_box #[.int .i64 vars, .slice A xss.length cap] 26
  have hcall := Lib.hid (implIsCnf_any vars _ xss F _ (Ty.row_below hx S0.below (Ty.row_lt hx)))
  replace S0 := Lib.hid S0
  have c0 := S0.out.cell (i := 0) rfl (o := 0) rfl
  have c1 := S0.out.cell (i := 0) rfl (o := 1) rfl
  clear hx
  cases h1 : goodB vars xss
  · rw [h1] at hcall
    go_enter Try.func16, Try.ntmps16
    go_wp2_with fail
    refine hcall.out.mono ?_
    rintro e w1 ⟨rfl, hb1⟩
    have hB := Lib.hid (S0.out.grow hb1).below
    clear hcall S0 c0 c1 hb1
    go_wp2_with fail
    go_ret2
    exact ⟨rfl, hB.out⟩
  have hg := good_cnf h1
  obtain ⟨n, rfl⟩ := Int.eq_ofNat_of_zero_le hg.1.1
  rw [show (n : Int).toNat = n by omega]
  have hn : n ≤ 12 := by omega
  have hp := (pow12 hn).2
  have eg : Enter1 89 := enters_of Try.func89 (by kernel_rfl) rfl
  have hmod := Lib.hid (fun W (S : Sp w W [Box w.heap.size 26 #[.int .i64 n, .slice A xss.length cap]]) =>
    models_any (cb := #[.pointer (some ⟨W.heap.size, 0, none⟩)]) eg n hn xss hg.2.2.2 (by omega) A cap (W.alloc (.cells #[.int .i64 (-1)] 3)) [W.heap.size] (by simp)
    (fun k V => (k < 2 ^ n → (List.range k).any (modT xss) = false) ∧ Sp w V [Box W.heap.size 3 #[.int .i64 (idxP (modT xss) (List.range k))], Box w.heap.size 26 #[.int .i64 n, .slice A xss.length cap]])
    ⟨fun _ => rfl, S.alloc_box #[.int .i64 (-1)] 3⟩ (fun k V V' h hb => ⟨h.1, h.2.grow hb⟩) (fun k V h => hI.grow h.2.below)
    (fun k V hm h => ⟨fun hk => by rw [rany_next, h.1 (by omega), hm]; rfl, by rw [idx_next hm]; exact h.2⟩)
    (fun k V hk hm hh => by
      obtain ⟨hno, h⟩ := hh
      have f0 := h.frozen (i := 0) rfl 0
      have c0 := h.cell (i := 0) rfl (o := 0) rfl
      have hid := Lib.hid (first_at hk (hno hk) hm)
      have S1 := Lib.hid (h.store (i := 0) rfl 0 (.int .i64 k))
      have hch := Lib.hid ((Chg.refl [W.heap.size] V).set (p := ⟨W.heap.size, 0, none⟩) (by simp) (.int .i64 k))
      generalize idxP (modT xss) (List.range k) = z0 at *
      clear h hk hm hno
      show Calls Try.prog 89 #[.int .i64 k, .pointer (some ⟨W.heap.size, 0, none⟩)] V _
      go_enter Try.func89, Try.ntmps89
      go_wp2_with fail
      go_ret
      exact ⟨false, rfl, hch.out, ⟨fun hlt => absurd hlt (Nat.lt_irrefl _), by rw [hid.out]; exact S1.out⟩⟩))
  have hge := idxP_ge (modT xss) (List.range (2 ^ n))
  have hno := Lib.hid (fun h => first_no (p := modT xss) (N := 2 ^ n) h)
  rw [h1] at hcall
  rw [Bool.true_and]
  clear eg hI hg h1
  generalize (List.range (2 ^ n)).any (modT xss) = q at *
  generalize idxP (modT xss) (List.range (2 ^ n)) = z at *
  generalize 2 ^ n = N at *
  go_enter Try.func16, Try.ntmps16
  go_wp2_with fail
  refine hcall.out.mono ?_
  rintro e w1 ⟨rfl, hb1⟩
  have S1 := Lib.hid (S0.out.grow hb1)
  have SA := S1.out.alloc_box #[.int .i64 (-1)] 3
  have d0 := SA.cell (i := 1) rfl (o := 0) rfl
  have d1 := SA.cell (i := 1) rfl (o := 1) rfl
  clear SA
  have hm2 := Lib.hid (hmod.out _ S1.out)
  clear hcall hmod S0 S1 c0 c1 hb1
  go_wp2_with fail
  refine hm2.out.mono ?_
  rintro e w2 ⟨rfl, -, S2⟩
  have d2 := S2.cell (i := 0) rfl (o := 0) rfl
  have hB := S2.below
  clear hm2 S2 d0 d1
  cases q
  · have hz : z < 0 := by have := of_decide_eq_false hge; omega
    have dz : decide (z < 0) = true := decide_eq_true hz
    go_wp2_with fail
    go_ret2
    exact ⟨rfl, hB⟩
  · have hz : ¬ z < 0 := by have := of_decide_eq_true hge; omega
    have dz : decide (z < 0) = false := decide_eq_false hz
    go_wp2_with fail
    go_ret2
    exact ⟨rfl, hB⟩
end Go.Proofs.Ytmikconjhmhekaa

/- Contract: a loop over all models with a closure that may turn blocks that it made. -/
namespace Go.Proofs.Ytmikconjhmhekaa
open Go.RowKit

set_option maxRecDepth 100000 in
set_option maxHeartbeats 4000000 in
theorem models2_any {g : FuncId} {cb : Array Value} (eg : Enter1 g) (n : Nat) (hn : n ≤ 12) (xss : List (List Int)) (hc : ∀ c ∈ xss, ClS c) (hl : xss.length ≤ 1000000) (A : Option Addr) (cap : Nat) (w : World)
    (P : Nat → World → Prop) (h0 : P 0 w) (hgrow : ∀ k w w', P k w → Below w.heap.size w w' → P k w') (hcls : ∀ k w, P k w → ClsAt w A xss)
    (hnot : ∀ k w, modT xss k = false → P k w → P (k + 1) w)
    (hstep : ∀ k W, w.heap.size < W.heap.size → k < 2 ^ n → modT xss k = true → P k W → Calls Try.prog g (#[.int .i64 k] ++ cb) W fun e w' => ∃ (q : Bool) (F : List Nat), e = .returned (.bool q) ∧ w.heap.size ∉ F ∧ Chg F W w' ∧ (if q then P (k + 1) w' else P (2 ^ n) w')) :
    Calls Try.prog 83 #[.agg #[.int .i64 n, .slice A xss.length cap], .func (.func g) #[] cb] w fun e w' => e = .returned (.tuple #[]) ∧ P (2 ^ n) w' := by
  unfold Enter1 at eg
  obtain ⟨hsh, hp⟩ := pow12 hn
  generalize 2 ^ n = N at *
  have c0 : (w.alloc (.cells #[.int .i64 n, .slice A xss.length cap] 26)).cell? ⟨w.heap.size, 0, none⟩ = some (.int .i64 n) := cell_of_row _ _ _ _ _ _ (heap_alloc_new w _)
  have c1 : (w.alloc (.cells #[.int .i64 n, .slice A xss.length cap] 26)).cell? ⟨w.heap.size, 1, none⟩ = some (.slice A xss.length cap) := cell_of_row _ _ _ _ _ _ (heap_alloc_new w _)
  have HP0 := Lib.hid (hgrow 0 w _ h0 (bal (bb w) (.cells #[.int .i64 n, .slice A xss.length cap] 26)))
  replace hgrow := Lib.hid hgrow
  replace hcls := Lib.hid hcls
  replace hnot := Lib.hid hnot
  replace hstep := Lib.hid hstep
  have hcc := Lib.hid hc
  clear h0 hc
  go_enter Try.func83, Try.ntmps83
  go_wp2_with fail
  rw [hsh]
  go_loopw [4, 8] (fun _ i wr => ∃ k : Nat, k ≤ N ∧ i = .int .i64 k ∧ wr.cell? ⟨w.heap.size, 1, none⟩ = some (.slice A xss.length cap) ∧ Hid (P k wr)) (fun _ i _ => N - (intOf i).toNat)
  case atStart => exact ⟨0, Nat.zero_le _, rfl, c1, HP0⟩
  case round =>
    obtain ⟨k, hk, rfl, d1, HP⟩ := hrel
    clear HP0 c0 c1
    by_cases hlt : k < N
    · have hcall := Lib.hid (isModel_any xss hcc.out hl A cap k (Nat.lt_of_lt_of_le hlt (Nat.le_trans hp (by decide))) wr (hcls.out k wr HP.out))
      cases hq : modT xss k
      · rw [hq] at hcall
        go_wp2_with fail
        refine hcall.out.mono ?_
        rintro e w1 ⟨rfl, hb1⟩
        have HP2 := Lib.hid (hnot.out k w1 hq (hgrow.out k wr w1 HP.out hb1))
        have d2 := ((bcell hb1).1 _ _ (World.block_lt_of_cell? _ _ d1)).trans d1
        clear hcall hb1 HP d1
        go_wp2_with fail
        go_roundw
        case rel => exact ⟨k + 1, by omega, by go_num, d2, HP2⟩
        case measure => simp [intOf]; omega
      · rw [hq] at hcall
        go_wp2_with fail
        refine hcall.out.mono ?_
        rintro e w1 ⟨rfl, hb1⟩
        have d2 := ((bcell hb1).1 _ _ (World.block_lt_of_cell? _ _ d1)).trans d1
        have hst := Lib.hid (hstep.out k w1 (World.block_lt_of_cell? _ _ d2) hlt hq (hgrow.out k wr w1 HP.out hb1))
        clear hcall hb1 HP d1
        go_wp2_with fail
        refine hst.out.mono ?_
        rintro e w2 ⟨q, F, rfl, hFF, hch, hP2⟩
        have d3 := (World.cell?_of_block (a := ⟨w.heap.size, 1, none⟩) (hch.block _ (World.block_lt_of_cell? _ _ d2) hFF)).trans d2
        cases q
        · replace hP2 := Lib.hid hP2
          clear hst hch hFF d2
          go_wp2_with fail
          have hP3 : P N w2 := hP2.out
          exact bodyPost_ret (v := .tuple #[]) (by simp [results, Try.results83, go_sem]) rfl ⟨rfl, hP3⟩
        · have HP2 : Hid (P (k + 1) w2) := hP2
          clear hst hch hFF d2 hP2
          go_wp2_with fail
          go_roundw
          case rel => exact ⟨k + 1, by omega, by go_num, d3, HP2⟩
          case measure => simp [intOf]; omega
    · obtain rfl : k = N := by omega
      go_wp2_with fail
      exact bodyPost_end (v := .tuple #[]) (by simp [results, Try.results83, go_sem]) rfl ⟨rfl, HP.out⟩
end Go.Proofs.Ytmikconjhmhekaa

/- Contract: the closure that lists models, in the program. -/
namespace Go.Proofs.Ytmikconjhmhekaa
open Go.RowKit

set_option maxRecDepth 100000 in
set_option maxHeartbeats 4000000 in
theorem allStep_any (w V : World) (ts : List Int) (B : Option Addr) (cc o fb k m : Nat) (fcs : Array Value) (hk : k < 4096) (hl : ts.length ≤ 300)
    (S : Sp w V [Own 3 1 (.slice B ts.length cc) ts.length (ts.map (.int .i64)), Box o 30 #[.slice B ts.length cc], Box fb 26 fcs])
    (hm1 : m < V.heap.size) (hmo : m ≠ o) (hmB : ∀ g, (Value.slice B ts.length cc).ownBlock = some g → g ≠ m) (q : Bool) (hq : decide (ts.length + 1 ≤ 300) = q) :
    Calls Try.prog 87 #[.int .i64 k, .pointer (some ⟨o, 0, none⟩)] V fun e w' => ∃ (B' : Option Addr) (cc' : Nat) (F : List Nat), e = .returned (.bool q) ∧ m ∉ F ∧ Chg F V w' ∧ (∀ g, (Value.slice B' (ts ++ [(k : Int)]).length cc').ownBlock = some g → g ≠ m) ∧
      Sp w w' [Own 3 1 (.slice B' (ts ++ [(k : Int)]).length cc') (ts ++ [(k : Int)]).length ((ts ++ [(k : Int)]).map (.int .i64)), Box o 30 #[.slice B' (ts ++ [(k : Int)]).length cc'], Box fb 26 fcs] := by
  obtain ⟨i0, hi0, hy0, hy1, hy2⟩ := info_parts infoInt
  have S4 := S.alloc_box #[.int .i64 (k : Int)] 3
  have kB := S4.cell (i := 0) rfl (o := 0) rfl
  have l0 := S.cell (i := 1) rfl (o := 0) rfl
  replace S4 := Lib.hid S4
  replace hmB := Lib.hid hmB
  clear S
  go_enter Try.func87, Try.ntmps87
  go_wp2_with (at_builtin; refine wpList_append_src rfl _ _ rfl Try.underlying30 hi0 hy0 hy1 hy2 rfl (by decide) _ _ _ rfl (S4.out.own (i := 1) rfl) _ 1 1 [.int .i64 (k : Int)] rfl (Src.one kB) (by simp [Value.oneCell']) ?c3 ?c4 ?_)
  case c3 => unfold maxLen; omega
  case c4 => omega
  intro vY wY hownY hgY hatY
  have S5 := (S4.out.own_push (i := 1) rfl (bb _) hownY hgY (by simpa using hatY)).tail
  have b1 := S5.cell (i := 1) rfl (o := 0) rfl
  have q1 := S5.frozen (i := 1) rfl 0
  have hl2 : ts.length + 1 = (ts ++ [(k : Int)]).length := by simp
  have hch : Chg ((Value.slice B ts.length cc).ownBlock.toList ++ [o]) V wY := by
    have hb := bal (bb V) (.cells #[.int .i64 (k : Int)] 3)
    exact ⟨hgY.os.trans hb.os, hgY.tape.trans hb.tape, hgY.output.trans hb.output, Nat.le_trans hb.size hgY.size, fun j hj hn =>
      (hgY.block j (Nat.lt_of_lt_of_le hj hb.size) (fun e => hn (List.mem_append.2 (.inl (by rw [← e]; simp))))).trans (hb.block j hj)⟩
  have hnew : ∀ g, vY.ownBlock = some g → g ≠ m := fun g hg => by
    have h2 : vY.ownBlock = (Value.slice B ts.length cc).ownBlock ∨ vY.ownBlock = some (V.heap.size + 1) := by simpa using hatY
    rcases h2 with h2 | h2
    · rw [h2] at hg; exact hmB.out g hg
    · rw [h2] at hg
      simp only [Option.some.injEq] at hg
      omega
  obtain ⟨aY, cY, rfl⟩ := own_slice hownY
  obtain ⟨L, hL⟩ : ∃ L, ts.length + 1 = L := ⟨_, rfl⟩
  rw [hL] at S5 hnew ⊢
  have S6 : Sp w (wY.setCell ⟨o, 0, none⟩ (.slice aY L cY)) [Own 3 1 (.slice aY L cY) L ((ts ++ [(k : Int)]).map (.int .i64)), Box o 30 #[.slice aY L cY], Box fb 26 fcs] := by
    rw [List.map_append]
    exact S5.store (i := 1) rfl 0 (.slice aY L cY)
  have l2 := S6.cell (i := 1) rfl (o := 0) rfl
  have hch2 := Lib.hid (hch.set (p := ⟨o, 0, none⟩) (by simp) (.slice aY L cY))
  have hmF : Hid (m ∉ (Value.slice B ts.length cc).ownBlock.toList ++ [o]) := fun h => by
    rcases List.mem_append.1 h with h | h
    · exact hmB.out m (by simpa using h) rfl
    · exact hmo (by simpa using h)
  have hlL : Hid ((ts ++ [(k : Int)]).length = L) := by unfold Hid; rw [← hl2, hL]
  replace hnew := Lib.hid hnew
  replace S6 := Lib.hid S6
  replace hL := Lib.hid hL
  clear S4 S5 kB l0 hownY hgY hatY hch hmB hl2
  cases q
  · have d3 : decide ((L : Int) ≤ 300) = false := decide_eq_false (by have := of_decide_eq_false hq; have := hL.out; omega)
    clear hq
    go_wp2_with fail
    go_ret
    first
      | exact ⟨aY, cY, _, rfl, hmF.out, hch2.out, by rw [hlL.out]; exact hnew.out, by rw [hlL.out]; exact S6.out⟩
      | exact ⟨rfl, aY, cY, _, hmF.out, hch2.out, by rw [hlL.out]; exact hnew.out, by rw [hlL.out]; exact S6.out⟩
  · have d3 : decide ((L : Int) ≤ 300) = true := decide_eq_true (by have := of_decide_eq_true hq; have := hL.out; omega)
    clear hq
    go_wp2_with fail
    go_ret
    first
      | exact ⟨aY, cY, _, rfl, hmF.out, hch2.out, by rw [hlL.out]; exact hnew.out, by rw [hlL.out]; exact S6.out⟩
      | exact ⟨rfl, aY, cY, _, hmF.out, hch2.out, by rw [hlL.out]; exact hnew.out, by rw [hlL.out]; exact S6.out⟩
end Go.Proofs.Ytmikconjhmhekaa

/- Contract: all models listed, in the program. -/
namespace Go.Proofs.Ytmikconjhmhekaa
open Go.RowKit

theorem cntP_mono {p : Nat → Bool} {k : Nat} : ∀ d, cntP p k ≤ cntP p (k + d)
  | 0 => Nat.le_refl _
  | d + 1 => by
    have := cntP_mono (p := p) (k := k) d
    cases h : p (k + d)
    · rw [show k + (d + 1) = (k + d) + 1 from rfl, cntP_no h]; exact this
    · rw [show k + (d + 1) = (k + d) + 1 from rfl, cntP_yes h]; omega
/-- What is listed before k, at most 301 numbers. -/
def AllP (w : World) (p : Nat → Bool) (N o m fb : Nat) (fcs : Array Value) (k : Nat) (V : World) : Prop :=
  ∃ (ts : List Int) (B : Option Addr) (cc : Nat), (ts.length ≤ 300 → ts = allN p k) ∧ (300 < ts.length → 300 < cntP p N) ∧ (k < N → ts.length ≤ 300) ∧ (∀ g, (Value.slice B ts.length cc).ownBlock = some g → g ≠ m) ∧
    Sp w V [Own 3 1 (.slice B ts.length cc) ts.length (ts.map (.int .i64)), Box o 30 #[.slice B ts.length cc], Box fb 26 fcs]

set_option maxRecDepth 100000 in
set_option maxHeartbeats 4000000 in
theorem allModels_any (vars : Int) (v : Value) (xss : List (List Int)) (F : List Nat) (w : World) (hx : (Ty.slice Ty.int).row false w v xss F) :
    Calls Try.prog 13 #[.agg #[.int .i64 vars, v]] w (IAns w (goodB vars xss && decide (cntP (modT xss) (2 ^ vars.toNat) ≤ 300)) (if goodB vars xss && decide (cntP (modT xss) (2 ^ vars.toNat) ≤ 300) then allN (modT xss) (2 ^ vars.toNat) else [])) := by
  obtain ⟨A, cap, rfl, hI⟩ := cls_row hx
  have S0 := (Sp.start w).alloc_box #[.int .i64 vars, .slice A xss.length cap] 26
  have hcall := Lib.hid (implIsCnf_any vars _ xss F _ (Ty.row_below hx S0.below (Ty.row_lt hx)))
  replace S0 := Lib.hid S0
  have c0 := S0.out.cell (i := 0) rfl (o := 0) rfl
  have c1 := S0.out.cell (i := 0) rfl (o := 1) rfl
  clear hx
  cases h1 : goodB vars xss
  · rw [h1] at hcall
    go_enter Try.func13, Try.ntmps13
    go_wp2_with fail
    refine hcall.out.mono ?_
    rintro e w1 ⟨rfl, hb1⟩
    have hB := Lib.hid (S0.out.grow hb1).below
    clear hcall S0 c0 c1 hb1
    go_wp2_with fail
    go_ret2
    exact ⟨none, 0, rfl, ⟨fun j hj => by simp at hj, fun c hc => by simp at hc⟩, hB.out⟩
  have hg := good_cnf h1
  obtain ⟨n, rfl⟩ := Int.eq_ofNat_of_zero_le hg.1.1
  rw [show (n : Int).toNat = n by omega]
  have hn : n ≤ 12 := by omega
  have hp := (pow12 hn).2
  have eg : Enter1 87 := enters_of Try.func87 (by kernel_rfl) rfl
  have hmod := Lib.hid (fun W (S : Sp w W [Box w.heap.size 26 #[.int .i64 n, .slice A xss.length cap]]) =>
    models2_any (cb := #[.pointer (some ⟨W.heap.size, 0, none⟩)]) eg n hn xss hg.2.2.2 (by omega) A cap (W.alloc (.cells #[.slice none 0 0] 30))
    (AllP w (modT xss) (2 ^ n) W.heap.size (W.alloc (.cells #[.slice none 0 0] 30)).heap.size w.heap.size #[.int .i64 n, .slice A xss.length cap])
    ⟨[], none, 0, fun _ => rfl, fun h => absurd h (by simp), fun _ => by simp, fun g hg => (by cases hg), (S.alloc_box #[.slice none 0 0] 30).own_nil _ _⟩
    (fun k V V' ⟨ts, B, cc, a1, a2, a3, a4, h⟩ hb => ⟨ts, B, cc, a1, a2, a3, a4, h.grow hb⟩) (fun k V ⟨_, _, _, _, _, _, _, h⟩ => hI.grow h.below)
    (fun k V hm ⟨ts, B, cc, a1, a2, a3, a4, h⟩ => ⟨ts, B, cc, fun hl => by rw [allN_no hm]; exact a1 hl, a2, fun hk => a3 (by omega), a4, h⟩)
    (fun k V hV hk hm ⟨ts, B, cc, a1, a2, a3, a4, h⟩ => by
      have hts := a1 (a3 hk)
      have hy := allN_yes hm
      have hcy := cntP_yes hm
      have hln := allN_len (modT xss) k
      have hmo := cntP_mono (p := modT xss) (k := k + 1) (2 ^ n - (k + 1))
      rw [show k + 1 + (2 ^ n - (k + 1)) = 2 ^ n by omega] at hmo
      obtain ⟨q, hq⟩ : ∃ q, decide (ts.length + 1 ≤ 300) = q := ⟨_, rfl⟩
      refine (allStep_any w V ts B cc W.heap.size w.heap.size k _ _ (Nat.lt_of_lt_of_le hk hp) (a3 hk) h hV (by simp) a4 q hq).mono ?_
      rintro e w' ⟨B', cc', G, rfl, hmG, hch, hnb, hS⟩
      refine ⟨q, G, rfl, hmG, hch, ?_⟩
      have hl2 : (ts ++ [(k : Int)]).length = ts.length + 1 := by simp
      cases q
      · have h3 := of_decide_eq_false hq
        exact ⟨_, B', cc', fun hl => absurd hl (by rw [hl2]; omega), fun _ => by rw [← hts] at hln; omega, fun hlt => absurd hlt (Nat.lt_irrefl _), hnb, hS⟩
      · have h3 := of_decide_eq_true hq
        exact ⟨_, B', cc', fun _ => by rw [hy, hts], fun hl => absurd hl (by rw [hl2]; omega), fun _ => by rw [hl2]; omega, hnb, hS⟩))
  have hlen := Lib.hid (allN_len (modT xss) (2 ^ n))
  have hok := Lib.hid (allN_ok (modT xss) (k := 2 ^ n) hp)
  rw [h1] at hcall
  rw [Bool.true_and]
  clear eg hI hg h1 hp
  generalize 2 ^ n = N at *
  obtain ⟨ok, hq⟩ : ∃ ok, decide (cntP (modT xss) N ≤ 300) = ok := ⟨_, rfl⟩
  rw [hq]
  obtain ⟨zs, hzs⟩ : ∃ zs, (if ok = true then allN (modT xss) N else []) = zs := ⟨_, rfl⟩
  rw [hzs]
  replace hq := Lib.hid hq
  replace hzs := Lib.hid hzs
  go_enter Try.func13, Try.ntmps13
  go_wp2_with fail
  refine hcall.out.mono ?_
  rintro e w1 ⟨rfl, hb1⟩
  have S1 := Lib.hid (S0.out.grow hb1)
  have SA := S1.out.alloc_box #[.slice none 0 0] 30
  have d0 := SA.cell (i := 1) rfl (o := 0) rfl
  have d1 := SA.cell (i := 1) rfl (o := 1) rfl
  clear SA
  have hm2 := Lib.hid (hmod.out _ S1.out)
  clear hcall hmod S0 S1 c0 c1 hb1
  go_wp2_with fail
  refine hm2.out.mono ?_
  rintro e w2 ⟨rfl, ts, B, cc, a1, a2, -, -, S2⟩
  have d2 := S2.cell (i := 1) rfl (o := 0) rfl
  have hB := Lib.hid S2.below
  clear hm2 d0 d1
  by_cases h3 : (300 : Int) < (ts.length : Int)
  · have d3 : decide ((300 : Int) < (ts.length : Int)) = true := decide_eq_true h3
    have h4 := a2 (by omega)
    have d4 : decide (cntP (modT xss) N ≤ 300) = false := decide_eq_false (by omega)
    obtain rfl : ok = false := by rw [← hq.out]; exact d4
    obtain rfl : zs = [] := by rw [← hzs.out]; rfl
    clear S2 a1 a2 h4 d4
    go_wp2_with fail
    go_ret2
    exact ⟨none, 0, rfl, ⟨fun j hj => by simp at hj, fun c hc => by simp at hc⟩, hB.out⟩
  · have d3 : decide ((300 : Int) < (ts.length : Int)) = false := decide_eq_false h3
    have h4 := a1 (by omega)
    have d4 : decide (cntP (modT xss) N ≤ 300) = true := decide_eq_true (by rw [← hlen.out, ← h4]; omega)
    have hokt : ∀ x ∈ ts, I64 x := by rw [h4]; exact hok.out
    obtain ⟨G, hr, -, -⟩ := own_row (S2.own (i := 0) rfl) hokt
    obtain ⟨B', c', e', hT⟩ := ints_row (Ty.row_down hr)
    cases e'
    replace hT := Lib.hid hT
    replace h4 := Lib.hid h4
    obtain rfl : ok = true := by rw [← hq.out]; exact d4
    obtain rfl : zs = ts := by rw [← hzs.out, h4.out]; rfl
    clear S2 a1 a2 hr hokt d4
    go_wp2_with fail
    go_ret2
    exact ⟨_, _, rfl, hT.out, hB.out⟩
end Go.Proofs.Ytmikconjhmhekaa
