/- Lemmas and contracts for a law, put together out of several texts: GvG GtZ GtZB GtCc GvA SdA OwnS GvB GuP. -/
import Derived.Test.YtkhopkonddgicaaMg9
import Derived.Test.YtkhopkonddgicaaMg5
import Derived.Test.YtkhopkonddgicaaMg6
import Derived.Deep.DeepCutAuto
import Derived.BigRegion
import Derived.Test.YtkhopkonddgicaaShelf
import Derived.Sort.OwnSortedInts
import Derived.Test.YtkhopkonddgicaaMg4
import Derived.Test.YtkhopkonddgicaaMg2
import Derived.Test.YtkhopkonddgicaaMg3
/- Contracts: the inputs of the law on monotone circuits; a search among numbers. -/
namespace Go.Proofs.Ytkhopkonddgicaa
open Go.RowKit

theorem GtAt.chg {F : List Nat} {w w' : World} {A : Option Addr} {gs : List Gt} (h : GtAt w A gs) (hc : Chg F w w') (hF : ∀ a, A = some a → a.block ∉ F) : GtAt w' A gs := by
  refine ⟨fun j hj => ?_, h.ok⟩
  obtain ⟨b, off, e, h1, h2, h3⟩ := h.at_ j hj
  have hk := hc.block b (World.block_lt_of_cell? _ _ h1) (hF _ e)
  exact ⟨b, off, e, (World.cell?_of_block (a := ⟨b, off + j * 3, none⟩) hk).trans h1, (World.cell?_of_block (a := ⟨b, off + j * 3 + 1, none⟩) hk).trans h2, (World.cell?_of_block (a := ⟨b, off + j * 3 + 2, none⟩) hk).trans h3⟩
theorem l1MostG_any (a b : Int) (w : World) : Calls Try.prog 70 #[.int .i64 a, .int .i64 b] w fun e w' => ∃ x, e = .returned (.int .i64 x) ∧ a ≤ x ∧ (x = a ∨ x = b) ∧ w = w' := by
  by_cases h : b < a
  · go_enter Try.func70, Try.ntmps70
    go_wp2_with fail
    go_ret
    exact ⟨a, rfl, by omega, .inl rfl, rfl⟩
  · have h2 : a ≤ b := by omega
    go_enter Try.func70, Try.ntmps70
    go_wp2_with fail
    go_ret
    exact ⟨b, rfl, by omega, .inr rfl, rfl⟩

set_option maxRecDepth 100000 in
set_option maxHeartbeats 4000000 in
theorem drawMono_any (ca : Option Addr) (cl cc : Nat) (w : World) (hc : CodeOk w ca cl) (hs : cl ≤ 65536) : Calls Try.prog 27 #[.slice ca cl cc] w (CircD w) := by
  have hd := Lib.hid (drawIsCircuit_any ca cl cc w hc hs)
  clear hc
  go_enter Try.func27, Try.ntmps27
  go_wp2_with fail
  refine hd.out.mono ?_
  rintro e w2 ⟨vars, B, cap, M, rfl, hv0, hv1, hl, hG, hB⟩
  replace hG := Lib.hid hG
  replace hB := Lib.hid hB
  clear hd
  go_wp2_with fail
  go_ret2
  exact ⟨vars, B, cap, M, rfl, hv0, hv1, hl, hG.out, hB.out⟩

/-- A drawn number of variables, a kind and two drawn circuits. -/
def JoinD (w : World) (e : Ending) (w' : World) : Prop :=
  ∃ (vars kind : Int) (B B2 : Option Addr) (cap cap2 : Nat) (M M2 : List Gt), e = .returned (.tuple #[.int .i64 vars, .int .i64 kind, .slice B M.length cap, .slice B2 M2.length cap2]) ∧ -1 ≤ vars ∧ vars ≤ 13 ∧ M.length ≤ 300 ∧ M2.length ≤ 300 ∧ GtAt w' B M ∧ GtAt w' B2 M2 ∧ Below w.heap.size w w'

set_option maxRecDepth 100000 in
set_option maxHeartbeats 4000000 in
theorem drawJoin_any (ca : Option Addr) (cl cc : Nat) (w : World) (hc : CodeOk w ca cl) (hs : cl ≤ 65536) : Calls Try.prog 35 #[.slice ca cl cc] w (JoinD w) := by
  have S0 := (Sp.start w).cur_laid ca cl cc
  have hi := Lib.hid (S0.cur (A' := 0) (i := 0) rfl hc hs).1
  have hB0 := Lib.hid S0.below
  clear S0
  go_enter Try.func35, Try.ntmps35
  go_wp2_with fail
  refine (cur_vars6 0 w.heap.size ca cl cc _ hi.out (by omega)).mono ?_
  rintro e w1 ⟨_, ⟨vars, hv0, hv1, rfl⟩, rfl, hi1, hc1⟩
  have hB1 := Lib.hid (hB0.out.trans (hc1.below hB0.out.size (by simp)))
  have hlt := hi1.lt
  have hcall := Lib.hid (cur_among 4 7 w1.heap.size 0 6 6 4 w.heap.size ca cl cc (w1.alloc (.cells #[.int .i64 5, .int .i64 6, .int .i64 5, .int .i64 6, .int .i64 4, .int .i64 7] 3)) (hi1.grow (bal (bb _) _)) (by omega) (by decide) (by decide) (ints_new (by simp) fun j hj => by
      match j, hj with
      | 0, _ => exact ⟨_, rfl, by decide, by decide⟩
      | 1, _ => exact ⟨_, rfl, by decide, by decide⟩
      | 2, _ => exact ⟨_, rfl, by decide, by decide⟩
      | 3, _ => exact ⟨_, rfl, by decide, by decide⟩
      | 4, _ => exact ⟨_, rfl, by decide, by decide⟩
      | 5, _ => exact ⟨_, rfl, by decide, by decide⟩) (by omega))
  have hB1a := Lib.hid (btr hB1.out (bal (bb w1) (.cells #[.int .i64 5, .int .i64 6, .int .i64 5, .int .i64 6, .int .i64 4, .int .i64 7] 3)))
  clear hi hB0 hi1 hc1 hB1 hlt
  go_wp2_with fail
  refine hcall.out.mono ?_
  rintro e w2 ⟨_, ⟨kind, hk0, hk1, rfl⟩, rfl, hi2, hc2⟩
  have hB2 := Lib.hid (hB1a.out.trans (hc2.below hB1a.out.size (by simp)))
  have hci := Lib.hid (cur_circuit vars hv0 hv1 _ w.heap.size ca cl cc _ hi2 (by omega))
  have hlt := hi2.lt
  clear hcall hB1a hc2 hi2
  go_wp2_with fail
  refine hci.out.mono ?_
  rintro e w3 ⟨B, cap, M, rfl, hl, hG, hblk, hS⟩
  have hB3 := Lib.hid (hB2.out.trans (hS.chg.below hB2.out.size (by simp)))
  have hci3 := Lib.hid (cur_circuit vars hv0 hv1 _ w.heap.size ca cl cc _ hS.cur (by omega))
  replace hG := Lib.hid hG
  replace hblk := Lib.hid hblk
  clear hci hB2 hS
  go_wp2_with fail
  refine hci3.out.mono ?_
  rintro e w4 ⟨B2, cap2, M2, rfl, hl2, hG2, -, hS2⟩
  have hB4 := Lib.hid (hB3.out.trans (hS2.chg.below hB3.out.size (by simp)))
  replace hG := Lib.hid (hG.out.chg hS2.chg (fun a ha => by have := hblk.out a ha; simp; omega))
  replace hG2 := Lib.hid hG2
  clear hci3 hB3 hS2 hblk
  go_wp2_with fail
  exact bodyPost_ret (v := .tuple #[.int .i64 vars, .int .i64 kind, .slice B M.length cap, .slice B2 M2.length cap2]) (by simp [results, Try.results35, go_sem]) rfl ⟨vars, kind, B, B2, cap, cap2, M, M2, rfl, hv0, hv1, hl, hl2, hG.out, hG2.out, hB4.out⟩

/-- A drawn number of variables, a drawn circuit, a variable and a value. -/
def RestD (w : World) (e : Ending) (w' : World) : Prop :=
  ∃ (vars : Int) (B : Option Addr) (cap : Nat) (M : List Gt) (v : Int) (val : Bool), e = .returned (.tuple #[.int .i64 vars, .slice B M.length cap, .int .i64 v, .bool val]) ∧ -1 ≤ vars ∧ vars ≤ 13 ∧ M.length ≤ 300 ∧ GtAt w' B M ∧ Below w.heap.size w w'

set_option maxRecDepth 100000 in
set_option maxHeartbeats 8000000 in
theorem drawRestrict_any (ca : Option Addr) (cl cc : Nat) (w : World) (hc : CodeOk w ca cl) (hs : cl ≤ 65536) : Calls Try.prog 30 #[.slice ca cl cc] w (RestD w) := by
  have S0 := (Sp.start w).cur_laid ca cl cc
  have hi := Lib.hid (S0.cur (A' := 0) (i := 0) rfl hc hs).1
  have hB0 := Lib.hid S0.below
  clear S0
  go_enter Try.func30, Try.ntmps30
  go_wp2_with fail
  refine (cur_vars6 0 w.heap.size ca cl cc _ hi.out (by omega)).mono ?_
  rintro e w1 ⟨_, ⟨vars, hv0, hv1, rfl⟩, rfl, hi1, hc1⟩
  have hB1 := Lib.hid (hB0.out.trans (hc1.below hB0.out.size (by simp)))
  replace hi1 := Lib.hid hi1
  clear hi hB0 hc1
  go_wp2_with fail
  refine (l1LeastG_any vars 12 w1).mono ?_
  rintro e w2 ⟨x, rfl, hx0, hx1, rfl⟩
  go_wp2_with fail
  refine (l1MostG_any 1 x w1).mono ?_
  rintro e w2 ⟨y, rfl, hy0, hy1, rfl⟩
  go_wp2_with fail
  refine (cur_pick_at (lo := 0) (hi := 11) (n := y) hi1.out (by omega) (by omega) (by omega) (by omega) (by omega)).mono ?_
  rintro e w2 ⟨_, ⟨z, hz0, hz1, rfl⟩, rfl, hi2, hc2⟩
  have hB2 := Lib.hid (hB1.out.trans (hc2.below hB1.out.size (by simp)))
  replace hi2 := Lib.hid hi2
  clear hi1 hB1 hc2
  go_wp2_with fail
  refine (cur_one 16 _ w.heap.size ca cl cc _ hi2.out (by omega) (by omega)).mono ?_
  rintro e w3 ⟨_, ⟨q, rfl⟩, rfl, hi3, hc3⟩
  have hB3 := Lib.hid (hB2.out.trans (hc3.below hB2.out.size (by simp)))
  clear hi2 hB2 hc3
  cases q
  · have hci := Lib.hid (cur_circuit vars hv0 hv1 _ w.heap.size ca cl cc _ hi3 (by omega))
    have hlt := hi3.lt
    clear hi3
    go_wp2_with fail
    refine hci.out.mono ?_
    rintro e w4 ⟨B, cap, M, rfl, hl, hG, hblk, hS⟩
    have hB4 := Lib.hid (hB3.out.trans (hS.chg.below hB3.out.size (by simp)))
    have hon := Lib.hid (cur_one 2 _ w.heap.size ca cl cc _ hS.cur (by omega) (by omega))
    replace hG := Lib.hid hG
    replace hblk := Lib.hid hblk
    clear hci hB3 hS
    go_wp2_with fail
    refine hon.out.mono ?_
    rintro e w5 ⟨_, ⟨q, rfl⟩, rfl, hi5, hc5⟩
    have hB5 := Lib.hid (hB4.out.trans (hc5.below hB4.out.size (by simp)))
    replace hG := Lib.hid (hG.out.chg hc5 (fun a ha => by have := hblk.out a ha; simp; omega))
    clear hon hB4 hi5 hc5 hblk
    go_wp2_with fail
    exact bodyPost_ret (v := .tuple #[.int .i64 vars, .slice B M.length cap, .int .i64 (1 + z), .bool q]) (by simp [results, Try.results30, go_sem]) rfl ⟨vars, B, cap, M, 1 + z, q, rfl, hv0, hv1, hl, hG.out, hB5.out⟩
  · have hlt3 := hi3.lt
    have hcall := Lib.hid (cur_among 0 14 w3.heap.size 0 2 2 _ w.heap.size ca cl cc (w3.alloc (.cells #[.int .i64 0, .int .i64 (vars + 1)] 3)) (hi3.grow (bal (bb _) _)) (by omega) (by decide) (by decide) (ints_new (by simp) fun j hj => by
      match j, hj with
      | 0, _ => exact ⟨_, rfl, by decide, by decide⟩
      | 1, _ => exact ⟨_, rfl, by omega, by omega⟩) (by omega))
    have hB3a := Lib.hid (btr hB3.out (bal (bb w3) (.cells #[.int .i64 0, .int .i64 (vars + 1)] 3)))
    clear hi3 hB3 hlt3
    go_wp2_with fail
    refine hcall.out.mono ?_
    rintro e w3b ⟨_, ⟨v, hk0, hk1, rfl⟩, rfl, hi3b, hc3b⟩
    have hB3 := Lib.hid (hB3a.out.trans (hc3b.below hB3a.out.size (by simp)))
    have hci := Lib.hid (cur_circuit vars hv0 hv1 _ w.heap.size ca cl cc _ hi3b (by omega))
    have hlt := hi3b.lt
    clear hcall hB3a hi3b hc3b
    go_wp2_with fail
    refine hci.out.mono ?_
    rintro e w4 ⟨B, cap, M, rfl, hl, hG, hblk, hS⟩
    have hB4 := Lib.hid (hB3.out.trans (hS.chg.below hB3.out.size (by simp)))
    have hon := Lib.hid (cur_one 2 _ w.heap.size ca cl cc _ hS.cur (by omega) (by omega))
    replace hG := Lib.hid hG
    replace hblk := Lib.hid hblk
    clear hci hB3 hS
    go_wp2_with fail
    refine hon.out.mono ?_
    rintro e w5 ⟨_, ⟨q, rfl⟩, rfl, hi5, hc5⟩
    have hB5 := Lib.hid (hB4.out.trans (hc5.below hB4.out.size (by simp)))
    replace hG := Lib.hid (hG.out.chg hc5 (fun a ha => by have := hblk.out a ha; simp; omega))
    clear hon hB4 hi5 hc5 hblk
    go_wp2_with fail
    exact bodyPost_ret (v := .tuple #[.int .i64 vars, .slice B M.length cap, .int .i64 v, .bool q]) (by simp [results, Try.results30, go_sem]) rfl ⟨vars, B, cap, M, v, q, rfl, hv0, hv1, hl, hG.out, hB5.out⟩
end Go.Proofs.Ytkhopkonddgicaa

/- Contract: a gate is added to a list that lies in a box. -/
namespace Go.Proofs.Ytkhopkonddgicaa
open Go.RowKit

/-- What lies in memory: the list's box, the list, others. -/
abbrev AddSp (w0 : World) (ob : Nat) (sv : Value) (M : List Gt) (ps : List Asn) (w : World) : Prop :=
  Sp w0 w (Box ob 28 #[sv] :: Own 41 3 sv M.length (M.flatMap gtEnc) :: ps)

set_option maxRecDepth 100000 in
set_option maxHeartbeats 8000000 in
theorem addG_any {w0 : World} {ps : List Asn} (ob : Nat) (sv : Value) (M : List Gt) (g : Gt) (w : World) (hl : M.length ≤ 1000) (HS : AddSp w0 ob sv M ps w) :
    Calls Try.prog 50 #[gtV g, .pointer (some ⟨ob, 0, none⟩)] w fun e w' => ∃ sv', e = .returned (.int .i64 (M.length : Nat)) ∧ AddSp w0 ob sv' (M ++ [g]) ps w' := by
  obtain ⟨k, a, b⟩ := g
  obtain ⟨i0, hi0, hz0, hz1, hz2⟩ := info_parts infoGt
  obtain ⟨aS, cS, rfl⟩ := own_slice (HS.own (i := 1) rfl)
  have hw : IntKind.i64.wrap (((M.length + 1 : Nat) : Int) - 1) = (M.length : Int) := by
    rw [show ((M.length + 1 : Nat) : Int) - 1 = (M.length : Int) by omega]; exact IntWalk.i64_in _ (by omega)
  have S3 := HS.alloc_box #[.int .i64 k, .int .i64 a, .int .i64 b] 41
  have c0 := S3.cell (i := 0) rfl (o := 0) rfl
  have c1 := S3.cell (i := 0) rfl (o := 1) rfl
  have c2 := S3.cell (i := 0) rfl (o := 2) rfl
  have c3 := S3.cell (i := 1) rfl (o := 0) rfl
  have S4 := S3.alloc_box #[.int .i64 k, .int .i64 a, .int .i64 b] 41
  simp only [World.size_alloc] at S4
  have k0 := S4.cell (i := 0) rfl (o := 0) rfl
  have k1 := S4.cell (i := 0) rfl (o := 1) rfl
  have k2 := S4.cell (i := 0) rfl (o := 2) rfl
  replace S4 := Lib.hid S4
  clear S3 HS
  go_enter Try.func50, Try.ntmps50
  go_wp2_with (at_builtin; refine wpList_append_src rfl _ _ rfl Try.underlying28 hi0 hz0 hz1 hz2 rfl (by decide) _ M.length _ rfl (S4.out.own (i := 3) rfl) _ 1 1 [.int .i64 k, .int .i64 a, .int .i64 b] rfl (Src.threeG k0 k1 k2) (by simp [Value.oneCell']) ?c3 ?c4 ?_)
  case c3 => unfold maxLen; omega
  case c4 => omega
  intro vE wE hownE hgE hatE
  have S6 := S4.out.own_push (i := 3) rfl (bb _) hownE hgE (by simpa using hatE)
  obtain ⟨aE, cE, rfl⟩ := own_slice hownE
  have e0 := S6.cell (i := 2) rfl (o := 0) rfl
  have e1 := S6.frozen (i := 2) rfl 0
  have S7 := Lib.hid ((S6.store (i := 2) rfl 0 (.slice aE (M.length + 1) cE)).tail).tail
  clear S4 S6 hownE hgE hatE c0 c1 c2 c3 k0 k1 k2
  go_wp2_with fail
  go_ret
  refine ⟨rfl, .slice aE (M.length + 1) cE, ?_⟩
  unfold AddSp
  rw [List.length_append, List.flatMap_append]
  exact S7.out
end Go.Proofs.Ytkhopkonddgicaa

/- Contract: pushing negations. -/
namespace Go.Proofs.Ytkhopkonddgicaa
open Go.RowKit

/-- What lies in memory while negations are pushed. -/
abbrev PnSp (w : World) (ob n : Nat) (s : PSt) (sv : Value) (a1 a2 b1 b2 : Nat) (W : World) : Prop :=
  Sp w W [Box ob 28 #[sv], Own 41 3 sv s.out.length (s.out.flatMap gtEnc), Box b1 45 #[.slice (some ⟨a1, 0, none⟩) n n], Box b2 45 #[.slice (some ⟨a2, 0, none⟩) n n], Box a1 3 (numsA n (fun j => s.same.getD j 0)), Box a2 3 (numsA n (fun j => s.other.getD j 0))]

/-- What the pushed gates are cut to. -/
def cutP (s : PSt) (n : Nat) : List Gt := s.out.take (s.same.getD (n - 1) 0 + 1)
/-- The circuit with pushed negations. -/
def pushR (gs : List Gt) : List Gt := trimG (cutP (pushesG gs) gs.length) (needL (cutP (pushesG gs) gs.length))
theorem pushes_take {gs : List Gt} {q : Nat} (h : q < gs.length) : pushesG (gs.take (q + 1)) = pushG (pushesG (gs.take q)) gs[q] := by
  rw [List.take_succ_eq_append_getElem h, pushes_snoc]
theorem numsA_snoc {n q x : Nat} {l : List Nat} (h : l.length = q) : (numsA n (fun j => l.getD j 0)).setIfInBounds q (.int .i64 x) = numsA n (fun j => (l ++ [x]).getD j 0) := by
  rw [numsA_set]
  refine numsA_congr fun j _ => ?_
  by_cases e : j = q
  · subst e; rw [if_pos rfl, getD_new h]
  · rw [if_neg e]
    rcases Nat.lt_or_ge j q with h1 | h1
    · rw [getD_old h h1]
    · rw [List.getD_eq_getElem?_getD, List.getD_eq_getElem?_getD, List.getElem?_eq_none (by omega), List.getElem?_eq_none (by rw [List.length_append, List.length_singleton]; omega)]
theorem pushG_4 (s : PSt) (a b : Int) : pushG s ⟨4, a, b⟩ = ⟨s.out, s.same ++ [s.other.getD a.toNat 0], s.other ++ [s.same.getD a.toNat 0]⟩ := rfl
theorem pushG_1 (s : PSt) (a b : Int) : pushG s ⟨1, a, b⟩ = ⟨s.out ++ [mvG (fun k => s.same.getD k 0) ⟨1, a, b⟩] ++ [⟨4, (s.out.length : Nat), 0⟩], s.same ++ [s.out.length], s.other ++ [s.out.length + 1]⟩ := rfl
theorem pushG_o (s : PSt) {k a b : Int} (h1 : k ≠ 1) (h4 : k ≠ 4) : pushG s ⟨k, a, b⟩ = ⟨s.out ++ [mvG (fun k => s.same.getD k 0) ⟨k, a, b⟩] ++ [mvG (fun k => s.other.getD k 0) ⟨dualK k, a, b⟩], s.same ++ [s.out.length], s.other ++ [s.out.length + 1]⟩ := by
  unfold pushG
  dsimp only
  rw [if_neg h4, if_neg h1]
theorem chain4 {w W : World} {ps : List Asn} {N : Nat} (S : Sp w W ps) (hN : W.heap.size = N) (c1 c2 c3 c4 : Array Value) (t1 t2 t3 t4 : TypeId) :
    Sp w ((((W.alloc (.cells c1 t1)).alloc (.cells c2 t2)).alloc (.cells c3 t3)).alloc (.cells c4 t4)).drew (Box (N + 1 + 1 + 1) t4 c4 :: Box (N + 1 + 1) t3 c3 :: Box (N + 1) t2 c2 :: Box N t1 c1 :: ps) := by
  have h := ((((S.alloc_box c1 t1).alloc_box c2 t2).alloc_box c3 t3).alloc_box c4 t4).drew
  simp only [World.size_alloc, hN] at h
  exact h

set_option maxRecDepth 100000 in
set_option maxHeartbeats 16000000 in
theorem push_any (vars : Int) (A : Option Addr) (c : Nat) (gs : List Gt) (w : World) (hx : GtAt w A gs) (hcb : circB vars gs = true) :
    Calls Try.prog 17 #[.int .i64 vars, .slice A gs.length c] w (GOut w (decide ((pushesG gs).out.length ≤ 200)) (pushR gs)) := by
  obtain ⟨-, hv, hp, hl, hg⟩ := circ_vars hcb
  have hc := isCircuit_any vars A c gs w hx (by omega)
  rw [hcb] at hc
  replace hc := Lib.hid hc
  have hmk := fun W => mk_nums gs.length (by omega) (gs.length : Int) rfl W
  obtain ⟨Z, hZ⟩ : ∃ Z, numsA gs.length (fun _ => 0) = Z := ⟨_, rfl⟩
  rw [hZ] at hmk
  have hX := Lib.hid hx
  replace hg := Lib.hid hg
  clear hx
  go_enter Try.func17, Try.ntmps17
  go_wp2_with fail
  refine hc.out.mono ?_
  rintro e w1 ⟨rfl, hb1⟩
  have S1 := (Sp.of_below hb1).alloc_box #[.slice none 0 0] 28
  have hN : (w1.alloc (.cells #[.slice none 0 0] 28)).heap.size = w1.heap.size + 1 := by simp
  go_upto_region 5 with fail
  go_cut [8, 9] (fun s8 s9 wx => ∃ a1 a2 b1 b2 : Nat, s8 = .pointer (some ⟨b1, 0, none⟩) ∧ s9 = .pointer (some ⟨b2, 0, none⟩) ∧ Hid (Sp w wx [Box w1.heap.size 28 #[.slice none 0 0], Box b1 45 #[.slice (some ⟨a1, 0, none⟩) gs.length gs.length], Box b2 45 #[.slice (some ⟨a2, 0, none⟩) gs.length gs.length], Box a1 3 Z, Box a2 3 Z]))
  case first =>
    go_region
    all_goals go_wp2_with fail
    all_goals go_meet
    all_goals first
      | exact ⟨_, _, _, _, rfl, rfl, Lib.hid (Sp.pick [4, 0, 0, 0, 0] (chain4 S1 hN _ _ _ _ _ _ _ _) rfl)⟩
      | exact ⟨_, _, _, _, rfl, rfl, Lib.hid (Sp.pick [4, 0, 0, 1, 0] (chain4 S1 hN _ _ _ _ _ _ _ _) rfl)⟩
      | exact ⟨_, _, _, _, rfl, rfl, Lib.hid (Sp.pick [4, 0, 1, 0, 0] (chain4 S1 hN _ _ _ _ _ _ _ _) rfl)⟩
      | exact ⟨_, _, _, _, rfl, rfl, Lib.hid (Sp.pick [4, 0, 1, 1, 0] (chain4 S1 hN _ _ _ _ _ _ _ _) rfl)⟩
      | exact ⟨_, _, _, _, rfl, rfl, Lib.hid (Sp.pick [4, 0, 2, 0, 0] (chain4 S1 hN _ _ _ _ _ _ _ _) rfl)⟩
      | exact ⟨_, _, _, _, rfl, rfl, Lib.hid (Sp.pick [4, 0, 2, 1, 0] (chain4 S1 hN _ _ _ _ _ _ _ _) rfl)⟩
      | exact ⟨_, _, _, _, rfl, rfl, Lib.hid (Sp.pick [4, 1, 0, 0, 0] (chain4 S1 hN _ _ _ _ _ _ _ _) rfl)⟩
      | exact ⟨_, _, _, _, rfl, rfl, Lib.hid (Sp.pick [4, 1, 0, 1, 0] (chain4 S1 hN _ _ _ _ _ _ _ _) rfl)⟩
      | exact ⟨_, _, _, _, rfl, rfl, Lib.hid (Sp.pick [4, 1, 1, 0, 0] (chain4 S1 hN _ _ _ _ _ _ _ _) rfl)⟩
      | exact ⟨_, _, _, _, rfl, rfl, Lib.hid (Sp.pick [4, 1, 1, 1, 0] (chain4 S1 hN _ _ _ _ _ _ _ _) rfl)⟩
      | exact ⟨_, _, _, _, rfl, rfl, Lib.hid (Sp.pick [4, 1, 2, 0, 0] (chain4 S1 hN _ _ _ _ _ _ _ _) rfl)⟩
      | exact ⟨_, _, _, _, rfl, rfl, Lib.hid (Sp.pick [4, 1, 2, 1, 0] (chain4 S1 hN _ _ _ _ _ _ _ _) rfl)⟩
      | exact ⟨_, _, _, _, rfl, rfl, Lib.hid (Sp.pick [4, 2, 0, 0, 0] (chain4 S1 hN _ _ _ _ _ _ _ _) rfl)⟩
      | exact ⟨_, _, _, _, rfl, rfl, Lib.hid (Sp.pick [4, 2, 0, 1, 0] (chain4 S1 hN _ _ _ _ _ _ _ _) rfl)⟩
      | exact ⟨_, _, _, _, rfl, rfl, Lib.hid (Sp.pick [4, 2, 1, 0, 0] (chain4 S1 hN _ _ _ _ _ _ _ _) rfl)⟩
      | exact ⟨_, _, _, _, rfl, rfl, Lib.hid (Sp.pick [4, 2, 1, 1, 0] (chain4 S1 hN _ _ _ _ _ _ _ _) rfl)⟩
      | exact ⟨_, _, _, _, rfl, rfl, Lib.hid (Sp.pick [4, 2, 2, 0, 0] (chain4 S1 hN _ _ _ _ _ _ _ _) rfl)⟩
      | exact ⟨_, _, _, _, rfl, rfl, Lib.hid (Sp.pick [4, 2, 2, 1, 0] (chain4 S1 hN _ _ _ _ _ _ _ _) rfl)⟩
      | exact ⟨_, _, _, _, rfl, rfl, Lib.hid (Sp.pick [4, 3, 0, 0, 0] (chain4 S1 hN _ _ _ _ _ _ _ _) rfl)⟩
      | exact ⟨_, _, _, _, rfl, rfl, Lib.hid (Sp.pick [4, 3, 0, 1, 0] (chain4 S1 hN _ _ _ _ _ _ _ _) rfl)⟩
      | exact ⟨_, _, _, _, rfl, rfl, Lib.hid (Sp.pick [4, 3, 1, 0, 0] (chain4 S1 hN _ _ _ _ _ _ _ _) rfl)⟩
      | exact ⟨_, _, _, _, rfl, rfl, Lib.hid (Sp.pick [4, 3, 1, 1, 0] (chain4 S1 hN _ _ _ _ _ _ _ _) rfl)⟩
      | exact ⟨_, _, _, _, rfl, rfl, Lib.hid (Sp.pick [4, 3, 2, 0, 0] (chain4 S1 hN _ _ _ _ _ _ _ _) rfl)⟩
      | exact ⟨_, _, _, _, rfl, rfl, Lib.hid (Sp.pick [4, 3, 2, 1, 0] (chain4 S1 hN _ _ _ _ _ _ _ _) rfl)⟩
  case rest =>
    obtain ⟨a1, a2, b1, b2, rfl, rfl, S2⟩ := hcut
    have hZ2 : Hid (numsA gs.length (fun j => (pushesG (gs.take 0)).same.getD j 0) = Z ∧ numsA gs.length (fun j => (pushesG (gs.take 0)).other.getD j 0) = Z) := by
      unfold Hid
      rw [← hZ]
      exact ⟨numsA_congr fun j _ => by simp [pushesG], numsA_congr fun j _ => by simp [pushesG]⟩
    have S3 := Lib.hid ((S2.out.own_nil 41 3).pick [1, 0, 0, 0, 0, 0] rfl)
    obtain ⟨ob, hob⟩ : ∃ ob, w1.heap.size = ob := ⟨_, rfl⟩
    rw [hob] at S3 ⊢
    have eg2 : Enter1 52 := enters_of Try.func52 (by kernel_rfl) rfl
    have eg3 : Enter1 54 := enters_of Try.func54 (by kernel_rfl) rfl
    replace eg2 := Lib.hid eg2
    replace eg3 := Lib.hid eg3
    clear S1 S2 hN hob hc hmk hZ hb1
    go_wp2_with fail
    go_loopw [25] (fun i wr => ∃ (q : Nat) (sv : Value), q ≤ gs.length ∧ i = .int .i64 q ∧ Hid (PnSp w ob gs.length (pushesG (gs.take q)) sv a1 a2 b1 b2 wr)) (fun i _ => gs.length - (intOf i).toNat)
    case atStart =>
      refine ⟨0, .slice none 0 0, Nat.zero_le _, rfl, ?_⟩
      unfold Hid PnSp
      rw [hZ2.out.1, hZ2.out.2]
      exact S3.out
    case round =>
      obtain ⟨q, sv, hq, rfl, hS⟩ := hrel
      clear S3 hZ2
      by_cases hlt : q < gs.length
      · have hqi : (q : Int) < gs.length := by omega
        have hP := pinv (gs.take q) (hg.out.take q)
        have hst := pushes_take hlt
        have hX2 := hX.out.grow hS.out.below
        obtain ⟨bg, og, e, m0, m1, m2⟩ := hX2.at_ q hlt
        cases e
        have hgq := hg.out q hlt
        have hlt2 := ins_lt hgq
        have hgi := gtB_iff.1 hgq
        have hl2 : (gs.take q).length = q := by rw [List.length_take]; omega
        generalize pushesG (gs.take q) = s at hS hP hst
        obtain ⟨M, sm, ot⟩ := s
        generalize gs[q] = g at m0 m1 m2 hst hgq hlt2 hgi
        obtain ⟨gk, ga, gb⟩ := g
        have hn1 := hP.n1
        have hn2 := hP.n2
        have hlen := hP.len
        rw [hl2] at hn1 hn2 hlen
        dsimp only at hn1 hn2 hlen m0 m1 m2 hgi
        unfold PnSp at hS
        dsimp only at hS
        have S3 := Lib.hid (hS.out.alloc_box #[.int .i64 gk, .int .i64 ga, .int .i64 gb] 41)
        have d0 := S3.out.cell (i := 0) rfl (o := 0) rfl
        have d1 := S3.out.cell (i := 0) rfl (o := 1) rfl
        have d2 := S3.out.cell (i := 0) rfl (o := 2) rfl
        have d3 := S3.out.cell (i := 3) rfl (o := 0) rfl
        have d4 := S3.out.cell (i := 4) rfl (o := 0) rfl
        replace hgi := Lib.hid hgi
        replace hst := Lib.hid hst
        clear hP hS hX2 hgq
        by_cases h4 : gk = 4
        · subst h4
          have hins : insG ⟨4, ga, gb⟩ = [ga.toNat] := rfl
          obtain ⟨a, rfl⟩ : ∃ a : Nat, ga = a := ⟨ga.toNat, by have := hgi.out; omega⟩
          have haq : a < q := by have := hgi.out; omega
          have hai : (a : Int) < gs.length := by omega
          have t0 := S3.out.cell (i := 6) rfl (o := a) (numsA_get (by omega))
          have t1 := S3.out.cell (i := 5) rfl (o := q) (numsA_get (by omega))
          have t2 := S3.out.frozen (i := 5) rfl q
          rw [pushG_4, Int.toNat_natCast] at hst
          dsimp only at hst
          obtain ⟨x, hx⟩ : ∃ x, ot.getD a 0 = x := ⟨_, rfl⟩
          rw [hx] at hst t0
          obtain ⟨y, hy⟩ : ∃ y, sm.getD a 0 = y := ⟨_, rfl⟩
          rw [hy] at hst
          clear hins hx
          go_wp2_with fail
          go_region
          have S4 := (S3.out.store (i := 5) rfl q (.int .i64 x)).drew
          simp only [List.set_cons_zero, List.set_cons_succ] at S4
          rw [numsA_snoc hn1] at S4
          have e1 := S4.cell (i := 0) rfl (o := 1) rfl
          have e3 := S4.cell (i := 3) rfl (o := 0) rfl
          have e4 := S4.cell (i := 4) rfl (o := 0) rfl
          have t3 := S4.cell (i := 5) rfl (o := a) (numsA_get (by omega))
          rw [getD_old hn1 haq, hy] at t3
          have t4 := S4.cell (i := 6) rfl (o := q) (numsA_get (by omega))
          have t5 := S4.frozen (i := 6) rfl q
          replace S4 := Lib.hid S4
          clear S3 d0 d1 d2 d3 d4 t0 t1 t2 hy m0 m1 m2
          go_wp2_with fail
          go_region
          have S5 := (S4.out.store (i := 6) rfl q (.int .i64 y)).drew
          simp only [List.set_cons_zero, List.set_cons_succ] at S5
          rw [numsA_snoc hn2] at S5
          replace S5 := Lib.hid S5.tail
          clear S4 e1 e3 e4 t3 t4 t5
          go_wp2_with fail
          go_roundw
          case rel =>
            refine ⟨q + 1, sv, by omega, by first | rfl | simp, ?_⟩
            unfold Hid PnSp
            rw [hst.out]
            exact S5.out
          case measure => simp [intOf]; omega
        have hfa1 : ∀ k ∈ insG (⟨gk, ga, gb⟩ : Gt), k ≤ 1000000 := fun k hk => by have := hlt2 k hk; omega
        have hga0 : 0 ≤ ga := by have := hgi.out; omega
        have hgb0 : 0 ≤ gb := by have := hgi.out; omega
        have S3d := S3.out.drew
        have x3 := S3d.cell (i := 3) rfl (o := 0) rfl
        have hmv := Lib.hid (moved_any (cb := #[.pointer (some ⟨b1, 0, none⟩)]) eg2.out (fun k => sm.getD k 0) ⟨gk, ga, gb⟩ hfa1 hga0 hgb0 _ (fun k hk W hW => sameLook_any b1 a1 gs.length gs.length k ((sm.getD k 0 : Nat) : Int) (by have := hlt2 k hk; omega) W ((hW.cell (p := ⟨b1, 0, none⟩) (S3d.box (i := 3) rfl).2.1).trans x3) ((hW.cell (p := ⟨a1, k, none⟩) (S3d.box (i := 5) rfl).2.1).trans (S3d.cell (i := 5) rfl (o := k) (numsA_get (by have := hlt2 k hk; omega))))))
        have hst1 : Hid (gk = 1 → pushG ⟨M, sm, ot⟩ ⟨gk, ga, gb⟩ = ⟨M ++ [mvG (fun k => sm.getD k 0) ⟨gk, ga, gb⟩] ++ [⟨4, (M.length : Nat), 0⟩], sm ++ [M.length], ot ++ [M.length + 1]⟩) := fun e => by subst e; rfl
        have hst2 : Hid (gk ≠ 1 → pushG ⟨M, sm, ot⟩ ⟨gk, ga, gb⟩ = ⟨M ++ [mvG (fun k => sm.getD k 0) ⟨gk, ga, gb⟩] ++ [mvG (fun k => ot.getD k 0) ⟨dualK gk, ga, gb⟩], sm ++ [M.length], ot ++ [M.length + 1]⟩) := fun e => pushG_o _ e h4
        generalize mvG (fun k => sm.getD k 0) ⟨gk, ga, gb⟩ = z at hmv hst1 hst2
        replace S3 := Lib.hid S3d
        clear x3 S3d hfa1
        go_wp2_with fail
        refine wp_region_held_lit (S := (fun w' => w'.cell? ⟨b1, 0, none⟩ = some (.slice (some ⟨a1, 0, none⟩) gs.length gs.length) ∧ w'.cell? ⟨wr.heap.size, 0, none⟩ = some (.int .i64 gk) ∧ w'.cell? ⟨wr.heap.size, 1, none⟩ = some (.int .i64 ga) ∧ w'.cell? ⟨wr.heap.size, 2, none⟩ = some (.int .i64 gb))) 9 [false, false, false, false, false, false, false, false, false] (by kernel_rfl) (by kernel_rfl) (by kernel_rfl) ?_ ?_
        · exact ⟨d3, d0, d1, d2⟩
        intro hSc
        (refine wpAnyH_take (i := 0) (v := ?_) rfl (by kernel_rfl) (by kernel_rfl) (by kernel_rfl) (fun _ _ _ h => h) (Or.inl ⟨by rfl, ?_⟩) (by assumption) ?_; rotate_left; (focus (intro w hSw; (try dsimp only at hSw); go_simp; (try with_reducible rfl); done)); (try simp only [put_rules]))
        (refine wpAnyH_take (i := 1) (v := ?_) rfl (by kernel_rfl) (by kernel_rfl) (by kernel_rfl) (fun _ _ _ h => h) (Or.inl ⟨by rfl, ?_⟩) (by assumption) ?_; rotate_left; (focus (intro w hSw; (try dsimp only at hSw); go_simp; (try with_reducible rfl); done)); (try simp only [put_rules]))
        (refine wpAnyH_take (i := 2) (v := ?_) rfl (by kernel_rfl) (by kernel_rfl) (by kernel_rfl) (fun _ _ _ h => h) (Or.inl ⟨by rfl, ?_⟩) (by assumption) ?_; rotate_left; (focus (intro w hSw; (try dsimp only at hSw); go_simp; (try with_reducible rfl); done)); (try simp only [put_rules]))
        (refine wpAnyH_take (i := 3) (v := ?_) rfl (by kernel_rfl) (by kernel_rfl) (by kernel_rfl) (fun _ _ _ h => h) (Or.inl ⟨by rfl, ?_⟩) (by assumption) ?_; rotate_left; (focus (intro w hSw; (try dsimp only at hSw); go_simp; (try with_reducible rfl); done)); (try simp only [put_rules]))
        (refine wpAnyH_take (i := 4) (v := ?_) rfl (by kernel_rfl) (by kernel_rfl) (by kernel_rfl) (fun _ _ _ h => h) (Or.inl ⟨by rfl, ?_⟩) (by assumption) ?_; rotate_left; (focus (intro w hSw; (try dsimp only at hSw); go_simp; (try with_reducible rfl); done)); (try simp only [put_rules]))
        (refine wpAnyH_ready (rs := [5]) (by kernel_rfl) (by simp) ?_; refine AllReadyH.cons rfl (fun K hK => ?_) AllReadyH.nil)
        go_simp
        go_at_call 51
        refine hmv.out.mono ?_
        rintro e w2 ⟨rfl, hb2⟩
        have S4 := Lib.hid (S3.out.grow hb2)
        have hf2 := Lib.hid (addG_any ob sv M z _ (by omega) (S4.out.pick [1, 1, 0, 0, 0, 0, 0] rfl))
        clear hmv S3 hb2 d0 d1 d2 d3 d4 m0 m1 m2
        go_wp2_with fail
        refine hK.out _ _ ⟨S4.out.cell (i := 3) rfl (o := 0) rfl, S4.out.cell (i := 0) rfl (o := 0) rfl, S4.out.cell (i := 0) rfl (o := 1) rfl, S4.out.cell (i := 0) rfl (o := 2) rfl⟩ (fun hS2 => ?_)
        clear hK hSc S4
        (try simp only [put_rules])
        (refine wpAnyH_ready (rs := [6]) (by kernel_rfl) (by simp) ?_; refine AllReadyH.cons rfl (fun K hK => ?_) AllReadyH.nil)
        go_simp
        refine hf2.out.mono ?_
        rintro e w3 ⟨sv', rfl, S5⟩
        unfold AddSp at S5
        have t0 := S5.cell (i := 5) rfl (o := q) (numsA_get (by omega))
        have t1 := S5.frozen (i := 5) rfl q
        replace S5 := Lib.hid S5
        clear hf2
        go_wp2_with fail
        refine hK.out _ _ ⟨S5.out.cell (i := 3) rfl (o := 0) rfl, S5.out.cell (i := 2) rfl (o := 0) rfl, S5.out.cell (i := 2) rfl (o := 1) rfl, S5.out.cell (i := 2) rfl (o := 2) rfl⟩ (fun hS3 => ?_)
        clear hK hS2
        (try simp only [put_rules])
        (refine wpAnyH_take (i := 7) (v := ?_) rfl (by kernel_rfl) (by kernel_rfl) (by kernel_rfl) (fun _ _ _ h => h) (Or.inl ⟨by rfl, ?_⟩) (by assumption) ?_; rotate_left; (focus (intro w hSw; (try dsimp only at hSw); go_simp; (try with_reducible rfl); done)); (try simp only [put_rules]))
        (refine wpAnyH_ready (rs := [8]) (by kernel_rfl) (by simp) ?_; refine AllReadyH.cons rfl (fun K hK => ?_) AllReadyH.nil)
        go_simp
        have S6 := S5.out.store (i := 5) rfl q (.int .i64 (M.length : Nat))
        simp only [List.set_cons_zero, List.set_cons_succ] at S6
        rw [numsA_snoc hn1] at S6
        refine hK.out _ _ ⟨S6.cell (i := 3) rfl (o := 0) rfl, S6.cell (i := 2) rfl (o := 0) rfl, S6.cell (i := 2) rfl (o := 1) rfl, S6.cell (i := 2) rfl (o := 2) rfl⟩ (fun hS4 => ?_)
        clear hK hS3 S5 t0 t1
        (try simp only [put_rules])
        (refine wpAnyH_done (by kernel_rfl) ?_ _)
        clear hS4
        have v0 := S6.cell (i := 2) rfl (o := 0) rfl
        by_cases h1 : gk = 1
        · subst h1
          have hst3 := hst1.out rfl
          clear hst1 hst2 h4
          have v3 := S6.cell (i := 3) rfl (o := 0) rfl
          have v4 := S6.cell (i := 4) rfl (o := 0) rfl
          have v5 := S6.cell (i := 5) rfl (o := q) (numsA_get hlt)
          rw [getD_new hn1] at v5
          have hf3 := Lib.hid (addG_any ob sv' (M ++ [z]) ⟨4, (M.length : Nat), 0⟩ _ (by rw [List.length_append, List.length_singleton]; omega) S6.drew)
          rw [show (M ++ [z]).length = M.length + 1 by simp] at hf3
          replace S6 := Lib.hid S6
          rw [hst3] at hst
          clear hst3
          go_wp2_with fail
          refine wp_region_held_lit (S := (fun w' => w'.cell? ⟨b1, 0, none⟩ = some (.slice (some ⟨a1, 0, none⟩) gs.length gs.length) ∧ w'.cell? ⟨b2, 0, none⟩ = some (.slice (some ⟨a2, 0, none⟩) gs.length gs.length) ∧ w'.cell? ⟨a1, q, none⟩ = some (.int .i64 (M.length : Nat)))) 11 [false, false, false, false, false, false, false, false, false, false, false] (by kernel_rfl) (by kernel_rfl) (by kernel_rfl) ?_ ?_
          · exact ⟨v3, v4, v5⟩
          intro hSc
          (refine wpAnyH_take (i := 0) (v := ?_) rfl (by kernel_rfl) (by kernel_rfl) (by kernel_rfl) (fun _ _ _ h => h) (Or.inl ⟨by rfl, ?_⟩) (by assumption) ?_; rotate_left; (focus (intro w hSw; (try dsimp only at hSw); go_simp; (try with_reducible rfl); done)); (try simp only [put_rules]))
          (refine wpAnyH_take (i := 1) (v := ?_) rfl (by kernel_rfl) (by kernel_rfl) (by kernel_rfl) (fun _ _ _ h => h) (Or.inl ⟨by rfl, ?_⟩) (by assumption) ?_; rotate_left; (focus (intro w hSw; (try dsimp only at hSw); go_simp; (try with_reducible rfl); done)); (try simp only [put_rules]))
          (refine wpAnyH_take (i := 2) (v := ?_) rfl (by kernel_rfl) (by kernel_rfl) (by kernel_rfl) (fun _ _ _ h => h) (Or.inl ⟨by rfl, ?_⟩) (by assumption) ?_; rotate_left; (focus (intro w hSw; (try dsimp only at hSw); go_simp; (try with_reducible rfl); done)); (try simp only [put_rules]))
          (refine wpAnyH_take (i := 3) (v := ?_) rfl (by kernel_rfl) (by kernel_rfl) (by kernel_rfl) (fun _ _ _ h => h) (Or.inl ⟨by rfl, ?_⟩) (by assumption) ?_; rotate_left; (focus (intro w hSw; (try dsimp only at hSw); go_simp; (try with_reducible rfl); done)); (try simp only [put_rules]))
          (refine wpAnyH_take (i := 4) (v := ?_) rfl (by kernel_rfl) (by kernel_rfl) (by kernel_rfl) (fun _ _ _ h => h) (Or.inl ⟨by rfl, ?_⟩) (by assumption) ?_; rotate_left; (focus (intro w hSw; (try dsimp only at hSw); go_simp; (try with_reducible rfl); done)); (try simp only [put_rules]))
          (refine wpAnyH_take (i := 5) (v := ?_) rfl (by kernel_rfl) (by kernel_rfl) (by kernel_rfl) (fun _ _ _ h => h) (Or.inl ⟨by rfl, ?_⟩) (by assumption) ?_; rotate_left; (focus (intro w hSw; (try dsimp only at hSw); go_simp; (try with_reducible rfl); done)); (try simp only [put_rules]))
          (refine wpAnyH_take (i := 6) (v := ?_) rfl (by kernel_rfl) (by kernel_rfl) (by kernel_rfl) (fun _ _ _ h => h) (Or.inl ⟨by rfl, ?_⟩) (by assumption) ?_; rotate_left; (focus (intro w hSw; (try dsimp only at hSw); go_simp; (try with_reducible rfl); done)); (try simp only [put_rules]))
          (refine wpAnyH_take (i := 7) (v := ?_) rfl (by kernel_rfl) (by kernel_rfl) (by kernel_rfl) (fun _ _ _ h => h) (Or.inl ⟨by rfl, ?_⟩) (by assumption) ?_; rotate_left; (focus (intro w hSw; (try dsimp only at hSw); go_simp; (try with_reducible rfl); done)); (try simp only [put_rules]))
          (refine wpAnyH_ready (rs := [8]) (by kernel_rfl) (by simp) ?_; refine AllReadyH.cons rfl (fun K hK => ?_) AllReadyH.nil)
          go_simp
          refine hf3.out.mono ?_
          rintro e w4 ⟨sv2, rfl, S7⟩
          unfold AddSp at S7
          have t0 := S7.cell (i := 6) rfl (o := q) (numsA_get hlt)
          have t1 := S7.frozen (i := 6) rfl q
          have t2 := S7.cell (i := 5) rfl (o := q) (numsA_get hlt)
          rw [getD_new hn1] at t2
          replace S7 := Lib.hid S7
          clear hf3 S6
          go_wp2_with fail
          refine hK.out _ _ ⟨S7.out.cell (i := 3) rfl (o := 0) rfl, S7.out.cell (i := 4) rfl (o := 0) rfl, t2⟩ (fun hS5 => ?_)
          clear hK hSc
          (try simp only [put_rules])
          (refine wpAnyH_take (i := 9) (v := ?_) rfl (by kernel_rfl) (by kernel_rfl) (by kernel_rfl) (fun _ _ _ h => h) (Or.inl ⟨by rfl, ?_⟩) (by assumption) ?_; rotate_left; (focus (intro w hSw; (try dsimp only at hSw); go_simp; (try with_reducible rfl); done)); (try simp only [put_rules]))
          (refine wpAnyH_ready (rs := [10]) (by kernel_rfl) (by simp) ?_; refine AllReadyH.cons rfl (fun K hK => ?_) AllReadyH.nil)
          go_simp
          have S8 := S7.out.store (i := 6) rfl q (.int .i64 ((M.length + 1 : Nat) : Int))
          simp only [List.set_cons_zero, List.set_cons_succ] at S8
          rw [numsA_snoc hn2] at S8
          have t3 := S8.cell (i := 5) rfl (o := q) (numsA_get hlt)
          rw [getD_new hn1] at t3
          refine hK.out _ _ ⟨S8.cell (i := 3) rfl (o := 0) rfl, S8.cell (i := 4) rfl (o := 0) rfl, t3⟩ (fun hS6 => ?_)
          have S9 := Lib.hid (S8.pick [0, 0, 1, 1, 1, 1] rfl)
          clear hK hS5 S7 S8 t0 t1 t2 t3
          (try simp only [put_rules])
          (refine wpAnyH_done (by kernel_rfl) ?_ _)
          clear hS6 v0 v3 v4 v5
          go_wp2_with fail
          go_roundw
          case rel =>
            refine ⟨q + 1, sv2, by omega, by first | rfl | simp, ?_⟩
            unfold Hid PnSp
            rw [hst.out]
            exact S9.out
          case measure => simp [intOf]; omega
        · have hst3 := hst2.out h1
          clear hst1 hst2
          rw [hst3] at hst
          clear hst3
          have hdk := Lib.hid (fun W => dualKind_any gk W)
          have v8 := S6.frozen (i := 2) rfl 0
          have S7 := S6.store (i := 2) rfl 0 (.int .i64 (dualK gk))
          simp only [List.set_cons_zero, List.set_cons_succ] at S7
          have d0 := S7.cell (i := 2) rfl (o := 0) rfl
          have d1 := S7.cell (i := 2) rfl (o := 1) rfl
          have d2 := S7.cell (i := 2) rfl (o := 2) rfl
          have d4 := S7.cell (i := 4) rfl (o := 0) rfl
          have S7d := S7.drew
          have x4 := S7d.cell (i := 4) rfl (o := 0) rfl
          have hid2 : insG ⟨dualK gk, ga, gb⟩ = insG ⟨gk, ga, gb⟩ := ins_dual ⟨gk, ga, gb⟩
          have hmv := Lib.hid (moved_any (cb := #[.pointer (some ⟨b2, 0, none⟩)]) eg3.out (fun k => ot.getD k 0) ⟨dualK gk, ga, gb⟩ (fun k hk => by rw [hid2] at hk; have := hlt2 k hk; omega) hga0 hgb0 _ (fun k hk W hW => by
            rw [hid2] at hk
            exact otherLook_any b2 a2 gs.length gs.length k ((ot.getD k 0 : Nat) : Int) (by have := hlt2 k hk; omega) W ((hW.cell (p := ⟨b2, 0, none⟩) (S7d.box (i := 4) rfl).2.1).trans x4) ((hW.cell (p := ⟨a2, k, none⟩) (S7d.box (i := 6) rfl).2.1).trans (S7d.cell (i := 6) rfl (o := k) (numsA_get (by have := hlt2 k hk; omega))))))
          generalize mvG (fun k => ot.getD k 0) ⟨dualK gk, ga, gb⟩ = y at hmv hst
          obtain ⟨dk, hdk2⟩ : ∃ dk, dualK gk = dk := ⟨_, rfl⟩
          rw [hdk2] at hmv hdk d0 S7d
          clear hdk2 hid2 S6 S7 x4
          replace S7 := Lib.hid S7d
          clear S7d
          go_wp2_with fail
          refine (hdk.out _).mono ?_
          rintro e w4 ⟨rfl, rfl⟩
          go_wp2_with fail
          refine wp_region_held_lit (S := (fun w' => w'.cell? ⟨b2, 0, none⟩ = some (.slice (some ⟨a2, 0, none⟩) gs.length gs.length) ∧ w'.cell? ⟨wr.heap.size, 0, none⟩ = some (.int .i64 dk) ∧ w'.cell? ⟨wr.heap.size, 1, none⟩ = some (.int .i64 ga) ∧ w'.cell? ⟨wr.heap.size, 2, none⟩ = some (.int .i64 gb))) 9 [false, false, false, false, false, false, false, false, false] (by kernel_rfl) (by kernel_rfl) (by kernel_rfl) ?_ ?_
          · exact ⟨S7.out.cell (i := 4) rfl (o := 0) rfl, S7.out.cell (i := 2) rfl (o := 0) rfl, S7.out.cell (i := 2) rfl (o := 1) rfl, S7.out.cell (i := 2) rfl (o := 2) rfl⟩
          intro hSc
          (refine wpAnyH_take (i := 0) (v := ?_) rfl (by kernel_rfl) (by kernel_rfl) (by kernel_rfl) (fun _ _ _ h => h) (Or.inl ⟨by rfl, ?_⟩) (by assumption) ?_; rotate_left; (focus (intro w hSw; (try dsimp only at hSw); go_simp; (try with_reducible rfl); done)); (try simp only [put_rules]))
          (refine wpAnyH_take (i := 1) (v := ?_) rfl (by kernel_rfl) (by kernel_rfl) (by kernel_rfl) (fun _ _ _ h => h) (Or.inl ⟨by rfl, ?_⟩) (by assumption) ?_; rotate_left; (focus (intro w hSw; (try dsimp only at hSw); go_simp; (try with_reducible rfl); done)); (try simp only [put_rules]))
          (refine wpAnyH_take (i := 2) (v := ?_) rfl (by kernel_rfl) (by kernel_rfl) (by kernel_rfl) (fun _ _ _ h => h) (Or.inl ⟨by rfl, ?_⟩) (by assumption) ?_; rotate_left; (focus (intro w hSw; (try dsimp only at hSw); go_simp; (try with_reducible rfl); done)); (try simp only [put_rules]))
          (refine wpAnyH_take (i := 3) (v := ?_) rfl (by kernel_rfl) (by kernel_rfl) (by kernel_rfl) (fun _ _ _ h => h) (Or.inl ⟨by rfl, ?_⟩) (by assumption) ?_; rotate_left; (focus (intro w hSw; (try dsimp only at hSw); go_simp; (try with_reducible rfl); done)); (try simp only [put_rules]))
          (refine wpAnyH_take (i := 4) (v := ?_) rfl (by kernel_rfl) (by kernel_rfl) (by kernel_rfl) (fun _ _ _ h => h) (Or.inl ⟨by rfl, ?_⟩) (by assumption) ?_; rotate_left; (focus (intro w hSw; (try dsimp only at hSw); go_simp; (try with_reducible rfl); done)); (try simp only [put_rules]))
          (refine wpAnyH_ready (rs := [5]) (by kernel_rfl) (by simp) ?_; refine AllReadyH.cons rfl (fun K hK => ?_) AllReadyH.nil)
          go_simp
          go_at_call 51
          refine hmv.out.mono ?_
          rintro e w5 ⟨rfl, hb5⟩
          have S8 := Lib.hid (S7.out.grow hb5)
          have hf3 := Lib.hid (addG_any ob sv' (M ++ [z]) y _ (by rw [List.length_append, List.length_singleton]; omega) S8.out)
          rw [show (M ++ [z]).length = M.length + 1 by simp] at hf3
          clear hmv S7 hb5 d0 d1 d2 d4
          go_wp2_with fail
          refine hK.out _ _ ⟨S8.out.cell (i := 4) rfl (o := 0) rfl, S8.out.cell (i := 2) rfl (o := 0) rfl, S8.out.cell (i := 2) rfl (o := 1) rfl, S8.out.cell (i := 2) rfl (o := 2) rfl⟩ (fun hS5 => ?_)
          clear hK hSc S8
          (try simp only [put_rules])
          (refine wpAnyH_ready (rs := [6]) (by kernel_rfl) (by simp) ?_; refine AllReadyH.cons rfl (fun K hK => ?_) AllReadyH.nil)
          go_simp
          refine hf3.out.mono ?_
          rintro e w6 ⟨sv2, rfl, S9⟩
          unfold AddSp at S9
          have t0 := S9.cell (i := 6) rfl (o := q) (numsA_get hlt)
          have t1 := S9.frozen (i := 6) rfl q
          replace S9 := Lib.hid S9
          clear hf3
          go_wp2_with fail
          refine hK.out _ _ ⟨S9.out.cell (i := 4) rfl (o := 0) rfl, S9.out.cell (i := 2) rfl (o := 0) rfl, S9.out.cell (i := 2) rfl (o := 1) rfl, S9.out.cell (i := 2) rfl (o := 2) rfl⟩ (fun hS6 => ?_)
          clear hK hS5
          (try simp only [put_rules])
          (refine wpAnyH_take (i := 7) (v := ?_) rfl (by kernel_rfl) (by kernel_rfl) (by kernel_rfl) (fun _ _ _ h => h) (Or.inl ⟨by rfl, ?_⟩) (by assumption) ?_; rotate_left; (focus (intro w hSw; (try dsimp only at hSw); go_simp; (try with_reducible rfl); done)); (try simp only [put_rules]))
          (refine wpAnyH_ready (rs := [8]) (by kernel_rfl) (by simp) ?_; refine AllReadyH.cons rfl (fun K hK => ?_) AllReadyH.nil)
          go_simp
          have SA := S9.out.store (i := 6) rfl q (.int .i64 ((M.length + 1 : Nat) : Int))
          simp only [List.set_cons_zero, List.set_cons_succ] at SA
          rw [numsA_snoc hn2] at SA
          refine hK.out _ _ ⟨SA.cell (i := 4) rfl (o := 0) rfl, SA.cell (i := 2) rfl (o := 0) rfl, SA.cell (i := 2) rfl (o := 1) rfl, SA.cell (i := 2) rfl (o := 2) rfl⟩ (fun hS7 => ?_)
          have SB := Lib.hid (SA.pick [0, 0, 1, 1, 1, 1] rfl)
          clear hK hS6 S9 SA t0 t1
          (try simp only [put_rules])
          (refine wpAnyH_done (by kernel_rfl) ?_ _)
          clear hS7 v0
          go_wp2_with fail
          go_roundw
          case rel =>
            refine ⟨q + 1, sv2, by omega, by first | rfl | simp, ?_⟩
            unfold Hid PnSp
            rw [hst.out]
            exact SB.out
          case measure => simp [intOf]; omega
      · obtain rfl : q = gs.length := by omega
        have hP := pinv gs hg.out
        unfold PnSp at hS
        rw [List.take_length] at hS
        have hR : pushR gs = trimG (cutP (pushesG gs) gs.length) (needL (cutP (pushesG gs) gs.length)) := rfl
        unfold cutP at hR
        have hO : ∃ L, (pushesG gs).out.length = L := ⟨_, rfl⟩
        obtain ⟨L, hO⟩ := hO
        have hOL := hO
        generalize hse : pushesG gs = s at hS hP hR hOL
        clear hse
        obtain ⟨M, B, ot⟩ := s
        dsimp only at hOL
        subst hOL
        replace hO := Lib.hid hO
        have hPl := hP.len
        have hPt := hP.lt1 (gs.length - 1) (by omega)
        have hPo := hP.ok
        dsimp only at hPl hPt hPo hS hR
        obtain ⟨aM, cM, e, hM⟩ := gt_own (hS.out.own (i := 1) rfl) (gt_small hPo (by omega) (by omega))
        cases e
        have hcap := own_cap (hS.out.own (i := 1) rfl)
        obtain ⟨mb, mo, e, -, -, -⟩ := hM.at_ 0 (by omega)
        cases e
        have c0 := hS.out.cell (i := 0) rfl (o := 0) rfl
        by_cases hbig : M.length ≤ 200
        · have hd : decide ((pushesG gs).out.length ≤ 200) = true := by rw [hO.out]; exact decide_eq_true hbig
          replace hd := Lib.hid hd
          have hbi : ¬ (200 : Int) < M.length := by omega
          obtain ⟨x, hx⟩ : ∃ x, B.getD (gs.length - 1) 0 = x := ⟨_, rfl⟩
          have t0 := hS.out.cell (i := 4) rfl (o := gs.length - 1) (numsA_get (by omega))
          rw [hx] at hPt t0 hR
          obtain ⟨m, hm⟩ : ∃ m, gs.length - 1 = m := ⟨_, rfl⟩
          rw [hm] at t0
          have hmi : (m : Int) < gs.length := by omega
          have hw1 : IntKind.i64.wrap ((gs.length : Int) - 1) = (m : Int) := by rw [show (gs.length : Int) - 1 = m by omega]; exact IntWalk.i64_in _ (by omega)
          have hw2 : IntKind.i64.wrap ((x : Int) + 1) = ((x + 1 : Nat) : Int) := by rw [show (x : Int) + 1 = ((x + 1 : Nat) : Int) by omega]; exact IntWalk.i64_in _ (by omega)
          have hxc : (x : Int) + 1 ≤ cM := by omega
          have hx0 : (0 : Int) ≤ (x : Int) + 1 := by omega
          have htl : (M.take (x + 1)).length = x + 1 := by rw [List.length_take]; omega
          have htr := fun W (h : Below wr.heap.size wr W) => trim_any (some ⟨mb, mo, none⟩) cM (M.take (x + 1)) W ((hM.grow h).take (x + 1)) (hPo.take _) (by omega) (by omega) (by omega)
          rw [htl] at htr
          rw [← hR] at htr
          clear hR
          generalize hRR : pushR gs = R at htr
          replace hRR := Lib.hid hRR
          have c1 := hS.out.cell (i := 2) rfl (o := 0) rfl
          have S3 := Lib.hid hS.out.drew
          have htr2 := Lib.hid (htr _ (bdr (bb wr)))
          replace hm := Lib.hid hm
          clear hP hPt hPo hM htl htr hS
          go_wp2_with fail
          refine wp_region_held_lit (S := (fun w' => w'.cell? ⟨ob, 0, none⟩ = some (.slice (some ⟨mb, mo, none⟩) M.length cM) ∧ w'.cell? ⟨b1, 0, none⟩ = some (.slice (some ⟨a1, 0, none⟩) gs.length gs.length) ∧ w'.cell? ⟨a1, m, none⟩ = some (.int .i64 (x : Int)))) 12 [false, false, false, false, false, false, false, false, false, false, false, false] (by kernel_rfl) (by kernel_rfl) (by kernel_rfl) ?_ ?_
          · exact ⟨c0, c1, t0⟩
          intro hSc
          (refine wpAnyH_take (i := 0) (v := ?_) rfl (by kernel_rfl) (by kernel_rfl) (by kernel_rfl) (fun _ _ _ h => h) (Or.inl ⟨by rfl, ?_⟩) (by assumption) ?_; rotate_left; (focus (intro w hSw; (try dsimp only at hSw); go_simp; (try with_reducible rfl); done)); (try simp only [put_rules]))
          (refine wpAnyH_take (i := 1) (v := ?_) rfl (by kernel_rfl) (by kernel_rfl) (by kernel_rfl) (fun _ _ _ h => h) (Or.inl ⟨by rfl, ?_⟩) (by assumption) ?_; rotate_left; (focus (intro w hSw; (try dsimp only at hSw); go_simp; (try with_reducible rfl); done)); (try simp only [put_rules]))
          (refine wpAnyH_take (i := 2) (v := ?_) rfl (by kernel_rfl) (by kernel_rfl) (by kernel_rfl) (fun _ _ _ h => h) (Or.inl ⟨by rfl, ?_⟩) (by assumption) ?_; rotate_left; (focus (intro w hSw; (try dsimp only at hSw); go_simp; (try with_reducible rfl); done)); (try simp only [put_rules]))
          (refine wpAnyH_take (i := 3) (v := ?_) rfl (by kernel_rfl) (by kernel_rfl) (by kernel_rfl) (fun _ _ _ h => h) (Or.inl ⟨by rfl, ?_⟩) (by assumption) ?_; rotate_left; (focus (intro w hSw; (try dsimp only at hSw); go_simp; (try with_reducible rfl); done)); (try simp only [put_rules]))
          (refine wpAnyH_take (i := 4) (v := ?_) rfl (by kernel_rfl) (by kernel_rfl) (by kernel_rfl) (fun _ _ _ h => h) (Or.inl ⟨by rfl, ?_⟩) (by assumption) ?_; rotate_left; (focus (intro w hSw; (try dsimp only at hSw); go_simp; (try with_reducible rfl); done)); (try simp only [put_rules]))
          (refine wpAnyH_take (i := 5) (v := ?_) rfl (by kernel_rfl) (by kernel_rfl) (by kernel_rfl) (fun _ _ _ h => h) (Or.inl ⟨by rfl, ?_⟩) (by assumption) ?_; rotate_left; (focus (intro w hSw; (try dsimp only at hSw); go_simp; (try with_reducible rfl); done)); (try simp only [put_rules]))
          (refine wpAnyH_take (i := 6) (v := ?_) rfl (by kernel_rfl) (by kernel_rfl) (by kernel_rfl) (fun _ _ _ h => h) (Or.inl ⟨by rfl, ?_⟩) (by assumption) ?_; rotate_left; (focus (intro w hSw; (try dsimp only at hSw); go_simp; (try with_reducible rfl); done)); (try simp only [put_rules]))
          (refine wpAnyH_take (i := 7) (v := ?_) rfl (by kernel_rfl) (by kernel_rfl) (by kernel_rfl) (fun _ _ _ h => h) (Or.inl ⟨by rfl, ?_⟩) (by assumption) ?_; rotate_left; (focus (intro w hSw; (try dsimp only at hSw); go_simp; (try with_reducible rfl); done)); (try simp only [put_rules]))
          (refine wpAnyH_take (i := 8) (v := ?_) rfl (by kernel_rfl) (by kernel_rfl) (by kernel_rfl) (fun _ _ _ h => h) (Or.inl ⟨by rfl, ?_⟩) (by assumption) ?_; rotate_left; (focus (intro w hSw; (try dsimp only at hSw); go_simp; (try with_reducible rfl); done)); (try simp only [put_rules]))
          clear c0 c1 t0
          (refine wpAnyH_ready (rs := [9]) (by kernel_rfl) (by simp) ?_; refine AllReadyH.cons rfl (fun K hK => ?_) AllReadyH.nil)
          go_simp
          go_at_call 55
          refine htr2.out.mono ?_
          rintro e w2 ⟨v, rfl, S4⟩
          have S5 := Lib.hid (S3.out.seq S4)
          clear htr2 S3 S4
          go_wp2_with fail
          refine hK.out _ _ ⟨S5.out.cell (i := 1) rfl (o := 0) rfl, S5.out.cell (i := 3) rfl (o := 0) rfl, by rw [← hx, ← hm.out]; exact S5.out.cell (i := 5) rfl (o := gs.length - 1) (numsA_get (by omega))⟩ (fun hS3 => ?_)
          clear hK hSc
          (try simp only [put_rules])
          (refine wpAnyH_take (i := 10) (v := ?_) rfl (by kernel_rfl) (by kernel_rfl) (by kernel_rfl) (fun _ _ _ h => h) (Or.inl ⟨by rfl, ?_⟩) (by assumption) ?_; rotate_left; (focus (intro w hSw; (try dsimp only at hSw); go_simp; (try with_reducible rfl); done)); (try simp only [put_rules]))
          (refine wpAnyH_take (i := 11) (v := ?_) rfl (by kernel_rfl) (by kernel_rfl) (by kernel_rfl) (fun _ _ _ h => h) (Or.inl ⟨by rfl, ?_⟩) (by assumption) ?_; rotate_left; (focus (intro w hSw; (try dsimp only at hSw); go_simp; (try with_reducible rfl); done)); (try simp only [put_rules]))
          (refine wpAnyH_done (by kernel_rfl) ?_ _)
          clear hS3
          go_wp2_with fail
          go_ret2
          rw [hd.out, hRR.out]
          exact GOut.yes (S5.out.pick [0] rfl)
        · have hd : decide ((pushesG gs).out.length ≤ 200) = false := by rw [hO.out]; exact decide_eq_false hbig
          replace hd := Lib.hid hd
          have hbi : (200 : Int) < M.length := by omega
          have hB := Lib.hid hS.out.below
          clear hP hPt hPo hM hS hR
          go_wp2_with fail
          go_ret2
          rw [hd.out]
          exact GOut.no hB.out

set_option maxRecDepth 100000 in
set_option maxHeartbeats 8000000 in
theorem pushM_any (vars : Int) (A : Option Addr) (c : Nat) (gs : List Gt) (w : World) (hx : GtAt w A gs) (hl : gs.length ≤ 1000) :
    Calls Try.prog 17 #[.int .i64 vars, .slice A gs.length c] w (GOut w (circB vars gs && decide ((pushesG gs).out.length ≤ 200)) (pushR gs)) := by
  have hc := isCircuit_any vars A c gs w hx (by omega)
  cases hq : circB vars gs
  · rw [hq] at hc
    replace hc := Lib.hid hc
    clear hx hq
    rw [Bool.false_and]
    go_enter Try.func17, Try.ntmps17
    go_wp2_with fail
    refine hc.out.mono ?_
    rintro e w1 ⟨rfl, hb1⟩
    replace hb1 := Lib.hid hb1
    go_wp2_with fail
    go_ret2
    exact GOut.no hb1.out
  · rw [Bool.true_and]
    exact push_any vars A c gs w hx hq
end Go.Proofs.Ytkhopkonddgicaa

/- Facts: what trimming, folding and pushing make of a valid circuit. -/
namespace Go.Proofs.Ytkhopkonddgicaa
open Go.RowKit

theorem need_pos {vars : Int} {gs : List Gt} (hg : OkG vars gs) (hp : 0 < gs.length) : 0 < (needL gs).length := by
  have h := (need_needs hg hp).2
  rcases Nat.eq_zero_or_pos (needL gs).length with h0 | h0
  · rw [List.length_eq_zero_iff.1 h0] at h
    cases h
  · exact h0
theorem circ_make {vars : Int} {gs : List Gt} (h0 : 0 ≤ vars) (h1 : vars ≤ 12) (hp : 0 < gs.length) (hl : gs.length ≤ 200) (h : OkG vars gs) : circB vars gs = true := by
  obtain ⟨n, rfl⟩ : ∃ n : Nat, vars = n := ⟨vars.toNat, by omega⟩
  exact circ_of (by omega) hp hl h
theorem trim_facts {vars : Int} {gs : List Gt} (h : circB vars gs = true) : circB vars (trimG gs (needL gs)) = true ∧ ∀ b, cval (trimG gs (needL gs)) b = cval gs b := by
  obtain ⟨h0, h1, hp, hl, hg⟩ := circ_vars h
  have hN := need_needs hg hp
  have hlen := needL_len hg hp
  have hpos := need_pos hg hp
  exact ⟨circ_make h0 h1 (by rw [trim_len]; exact hpos) (by rw [trim_len]; omega) (trim_ok hg hN.1), fun b => trim_cval hg hN.1 hN.2 b⟩
theorem cut_facts {vars : Int} {M : List Gt} {x : Nat} (h0 : 0 ≤ vars) (h1 : vars ≤ 12) (hM : OkG vars M) (hx : x < M.length) (hl : M.length ≤ 200) :
    circB vars (trimG (M.take (x + 1)) (needL (M.take (x + 1)))) = true ∧ ∀ b, cval (trimG (M.take (x + 1)) (needL (M.take (x + 1)))) b = gval b M x := by
  have hK : circB vars (M.take (x + 1)) = true := circ_make h0 h1 (by rw [List.length_take]; omega) (by rw [List.length_take]; omega) (hM.take _)
  have := trim_facts hK
  exact ⟨this.1, fun b => by rw [this.2, cval_take b hx]⟩
theorem fold_facts {vars : Int} {gs : List Gt} (h : circB vars gs = true) : circB vars (foldR gs) = true ∧ ∀ b, cval (foldR gs) b = cval gs b := by
  obtain ⟨h0, h1, hp, hl, hg⟩ := circ_vars h
  have hF := finv gs hg
  have hc := cut_facts h0 h1 hF.ok (hF.lt (gs.length - 1) (by omega)) (by have := hF.len; omega)
  unfold foldR cutK
  exact ⟨hc.1, fun b => by rw [hc.2, hF.val (gs.length - 1) (by omega)]; rfl⟩
theorem push_facts {vars : Int} {gs : List Gt} (h : circB vars gs = true) (hl2 : (pushesG gs).out.length ≤ 200) : circB vars (pushR gs) = true ∧ ∀ b, cval (pushR gs) b = cval gs b := by
  obtain ⟨h0, h1, hp, hl, hg⟩ := circ_vars h
  have hP := pinv gs hg
  have hc := cut_facts h0 h1 hP.ok (hP.lt1 (gs.length - 1) (by omega)) hl2
  unfold pushR cutP
  exact ⟨hc.1, fun b => by rw [hc.2, hP.val1 (gs.length - 1) (by omega)]; rfl⟩
/-- The opposite circuit. -/
def notG (gs : List Gt) : List Gt := gs ++ [⟨4, ((gs.length - 1 : Nat) : Int), 0⟩]
theorem not_facts {vars : Int} {gs : List Gt} (h : circB vars gs = true) (hl2 : gs.length < 200) : circB vars (notG gs) = true ∧ ∀ b, cval (notG gs) b = !cval gs b := by
  obtain ⟨h0, h1, hp, hl, hg⟩ := circ_vars h
  unfold notG
  refine ⟨circ_make h0 h1 (by simp) (by simp; omega) (hg.snoc (gtB_iff.2 (by dsimp only; omega))), fun b => ?_⟩
  unfold cval
  rw [List.length_append, List.length_singleton, Nat.add_sub_cancel, gval_new]
  simp [gv]
theorem cnt_not (P : Nat → Bool) : ∀ n, cntP (fun b => !P b) n + cntP P n = n
  | 0 => rfl
  | n + 1 => by
    have := cnt_not P n
    cases h : P n
    · rw [cntP_yes (by simp [h]), cntP_no h]; omega
    · rw [cntP_no (by simp [h]), cntP_yes h]; omega
end Go.Proofs.Ytkhopkonddgicaa

/- Plain facts: circuits with a variable put, two circuits joined, monotone circuits, the variables of a circuit. No program in sight. -/
namespace Go.Proofs.Ytkhopkonddgicaa
open Go.RowKit

/-! ### A variable put. -/
def restGt (v : Int) (val : Bool) (g : Gt) : Gt := if g.k = 1 ∧ g.a = v then ⟨if val then 2 else 3, 0, 0⟩ else g
def restG (v : Int) (val : Bool) (gs : List Gt) : List Gt := gs.map (restGt v val)
theorem restG_len (v : Int) (val : Bool) (gs : List Gt) : (restG v val gs).length = gs.length := by simp [restG]
theorem rest_gt {vars v : Int} {val : Bool} {i : Nat} {g : Gt} (h : gtB vars i g = true) : gtB vars i (restGt v val g) = true := by
  unfold restGt
  by_cases e : g.k = 1 ∧ g.a = v
  · rw [if_pos e, gtB_iff]
    refine .inr (.inl ⟨?_, rfl, rfl⟩)
    cases val
    · exact .inr rfl
    · exact .inl rfl
  · rw [if_neg e]; exact h
theorem rest_ok {vars v : Int} {val : Bool} {gs : List Gt} (h : OkG vars gs) : OkG vars (restG v val gs) := by
  intro i hi
  have hi2 : i < gs.length := by rwa [restG_len] at hi
  have : (restG v val gs)[i] = restGt v val gs[i] := by simp [restG]
  rw [this]
  exact rest_gt (h i hi2)
theorem rest_circ {vars v : Int} {val : Bool} {gs : List Gt} (h : circB vars gs = true) : circB vars (restG v val gs) = true := by
  obtain ⟨h0, h1, hp, hl, hg⟩ := circ_vars h
  exact circ_make h0 h1 (by rw [restG_len]; exact hp) (by rw [restG_len]; exact hl) (rest_ok hg)
theorem ins_rest (v : Int) (val : Bool) (g : Gt) : insG (restGt v val g) = insG g := by
  unfold restGt
  by_cases e : g.k = 1 ∧ g.a = v
  · rw [if_pos e]
    cases val <;> simp [insG, e.1]
  · rw [if_neg e]
theorem gv_rest {vars v : Int} {val : Bool} {i b c : Nat} {g : Gt} {p q : Nat → Bool} (h : gtB vars i g = true) (hbc : ∀ u : Int, 1 ≤ u → u ≤ vars → bitG c u = if u = v then val else bitG b u) (hpq : ∀ k ∈ insG g, p k = q k) :
    gv b p (restGt v val g) = gv c q g := by
  rw [gv_congr (f := p) (f' := q) (g := restGt v val g) (by rw [ins_rest]; exact hpq)]
  unfold restGt
  by_cases h1 : g.k = 1
  · have hg := gtB_iff.1 h
    have ha : 1 ≤ g.a ∧ g.a ≤ vars := by omega
    have hu := hbc g.a ha.1 ha.2
    by_cases e : g.a = v
    · rw [if_pos ⟨h1, e⟩]
      rw [if_pos e] at hu
      unfold gv
      rw [if_pos h1, hu]
      cases val <;> rfl
    · rw [if_neg (fun x => e x.2)]
      rw [if_neg e] at hu
      unfold gv
      rw [if_pos h1, if_pos h1, hu]
  · rw [if_neg (fun x => h1 x.1)]
    unfold gv
    rw [if_neg h1, if_neg h1]
theorem rest_vals {vars v : Int} {val : Bool} {gs : List Gt} (h : OkG vars gs) {b c : Nat} (hbc : ∀ u : Int, 1 ≤ u → u ≤ vars → bitG c u = if u = v then val else bitG b u) :
    ∀ n i, i < n → i < gs.length → gval b (restG v val gs) i = gval c gs i := by
  intro n
  induction n with
  | zero => intro i h0; omega
  | succ n ih =>
    intro i hn hi
    have hi2 : i < (restG v val gs).length := by rw [restG_len]; exact hi
    have e : (restG v val gs)[i] = restGt v val gs[i] := by simp [restG]
    rw [(rest_ok h).val b hi2, h.val c hi, e]
    refine gv_rest (h i hi) hbc fun k hk => ?_
    have := ins_lt (h i hi) k hk
    exact ih k (by omega) (by omega)
theorem rest_cval {vars v : Int} {val : Bool} {gs : List Gt} (h : circB vars gs = true) {b c : Nat} (hbc : ∀ u : Int, 1 ≤ u → u ≤ vars → bitG c u = if u = v then val else bitG b u) :
    cval (restG v val gs) b = cval gs c := by
  obtain ⟨h0, h1, hp, hl, hg⟩ := circ_vars h
  unfold cval
  rw [restG_len]
  exact rest_vals hg hbc gs.length _ (by omega) (by omega)
/-- No gate has the variable any more. -/
theorem rest_no {v : Int} {val : Bool} {gs : List Gt} {i : Nat} (hi : i < (restG v val gs).length) (hk : (restG v val gs)[i].k = 1) : (restG v val gs)[i].a ≠ v := by
  have e : (restG v val gs)[i] = restGt v val (gs[i]'(by rwa [restG_len] at hi)) := by simp [restG]
  rw [e] at hk ⊢
  generalize gs[i]'(by rwa [restG_len] at hi) = g at hk ⊢
  unfold restGt at hk ⊢
  by_cases e : g.k = 1 ∧ g.a = v
  · rw [if_pos e] at hk
    cases val <;> simp at hk
  · rw [if_neg e] at hk ⊢
    exact fun h => e ⟨hk, h⟩
theorem rest_take {v : Int} {val : Bool} {gs : List Gt} {q : Nat} (h : q < gs.length) : restG v val (gs.take (q + 1)) = restG v val (gs.take q) ++ [restGt v val gs[q]] := by
  unfold restG
  rw [List.take_succ_eq_append_getElem h, List.map_append]; rfl

/-! ### Two circuits joined. -/
def joinG (kind : Int) (xs ys : List Gt) : List Gt := xs ++ ys.map (mvG fun k => k + xs.length) ++ [⟨kind, ((xs.length - 1 : Nat) : Int), ((xs.length + ys.length - 1 : Nat) : Int)⟩]
theorem joinG_len (kind : Int) (xs ys : List Gt) : (joinG kind xs ys).length = xs.length + ys.length + 1 := by simp [joinG]; omega
theorem joinM_ok {vars : Int} {xs : List Gt} (hx : OkG vars xs) : ∀ {ys : List Gt}, OkG vars ys → OkG vars (xs ++ ys.map (mvG fun k => k + xs.length)) := by
  intro ys
  induction ys using snoc_ind with
  | h0 => intro _; simpa using hx
  | h1 ys g ih =>
    intro hy
    have hy2 : OkG vars ys := by have := hy.take ys.length; rwa [List.take_left] at this
    have hg : gtB vars ys.length g = true := by
      have := hy ys.length (by simp)
      rwa [List.getElem_concat_length rfl] at this
    rw [List.map_append, ← List.append_assoc]
    refine (ih hy2).snoc (mv_ok hg fun k hk => ?_)
    have := ins_lt hg k hk
    rw [List.length_append, List.length_map]; omega
theorem joinM_val {vars : Int} {xs ys : List Gt} (hx : OkG vars xs) (hy : OkG vars ys) (bits : Nat) : ∀ n i, i < n → i < ys.length → gval bits (xs ++ ys.map (mvG fun k => k + xs.length)) (xs.length + i) = gval bits ys i := by
  intro n
  induction n with
  | zero => intro i h0; omega
  | succ n ih =>
    intro i hn hi
    have hl : xs.length + i < (xs ++ ys.map (mvG fun k => k + xs.length)).length := by simp; omega
    have e : (xs ++ ys.map (mvG fun k => k + xs.length))[xs.length + i] = mvG (fun k => k + xs.length) ys[i] := by
      rw [List.getElem_append_right (by omega)]
      simp
    rw [(joinM_ok hx hy).val bits hl, hy.val bits hi, e]
    refine mv_val fun k hk => ?_
    have := ins_lt (hy i hi) k hk
    rw [Nat.add_comm]
    exact ih k (by omega) (by omega)
theorem join_circ {vars kind : Int} {xs ys : List Gt} (hx : circB vars xs = true) (hy : circB vars ys = true) (hk : kind = 5 ∨ kind = 6) (hl : xs.length + ys.length < 200) : circB vars (joinG kind xs ys) = true := by
  obtain ⟨h0, h1, hp, hl1, hg⟩ := circ_vars hx
  obtain ⟨-, -, hp2, hl2, hg2⟩ := circ_vars hy
  refine circ_make h0 h1 (by rw [joinG_len]; omega) (by rw [joinG_len]; omega) ?_
  unfold joinG
  refine (joinM_ok hg hg2).snoc (gtB_iff.2 ?_)
  rw [List.length_append, List.length_map]
  dsimp only
  omega
theorem join_cval {vars kind : Int} {xs ys : List Gt} (hx : circB vars xs = true) (hy : circB vars ys = true) (hk : kind = 5 ∨ kind = 6) (b : Nat) :
    cval (joinG kind xs ys) b = if kind = 5 then (cval xs b && cval ys b) else (cval xs b || cval ys b) := by
  obtain ⟨h0, h1, hp, hl1, hg⟩ := circ_vars hx
  obtain ⟨-, -, hp2, hl2, hg2⟩ := circ_vars hy
  have hl : (xs ++ ys.map (mvG fun k => k + xs.length)).length = xs.length + ys.length := by simp
  have e1 : gval b (xs ++ ys.map (mvG fun k => k + xs.length)) (xs.length - 1) = cval xs b := gval_pre (by omega) _
  have e2 : gval b (xs ++ ys.map (mvG fun k => k + xs.length)) (xs.length + ys.length - 1) = cval ys b := by
    rw [show xs.length + ys.length - 1 = xs.length + (ys.length - 1) by omega]
    exact joinM_val hg hg2 b ys.length _ (by omega) (by omega)
  unfold cval at e1 e2 ⊢
  rw [joinG_len, Nat.add_sub_cancel]
  unfold joinG
  rw [← hl, gval_new, hl]
  unfold gv
  simp only [Int.toNat_natCast, e1, e2]
  rcases hk with rfl | rfl <;> simp

/-! ### Monotone circuits. -/
def monoB (gs : List Gt) : Bool := !((needL gs).any fun i => decide ((gs.getD i ⟨0, 0, 0⟩).k = 4))
theorem mono_vals {vars : Int} {gs : List Gt} (hg : OkG vars gs) (hp : 0 < gs.length) (hm : monoB gs = true) {b c : Nat} (hbc : ∀ u : Int, 1 ≤ u → u ≤ vars → bitG b u = true → bitG c u = true) :
    ∀ n i, i < n → i ∈ needL gs → gval b gs i = true → gval c gs i = true := by
  have hN := (need_needs hg hp).1
  have hno : ∀ i ∈ needL gs, (gs.getD i ⟨0, 0, 0⟩).k ≠ 4 := by
    intro i hi e
    unfold monoB at hm
    rw [Bool.not_eq_true', List.any_eq_false] at hm
    exact hm i hi (decide_eq_true e)
  intro n
  induction n with
  | zero => intro i h0; omega
  | succ n ih =>
    intro i hn hi hv
    have hlt := hN.lt i hi
    have hd : gs.getD i ⟨0, 0, 0⟩ = gs[i] := by rw [List.getD_eq_getElem?_getD, List.getElem?_eq_getElem hlt]; rfl
    have hk := hno i hi
    have hin := hN.ins i hi
    rw [hd] at hk hin
    have hil := ins_lt (hg i hlt)
    have hgi := gtB_iff.1 (hg i hlt)
    have step : ∀ k ∈ insG gs[i], gval b gs k = true → gval c gs k = true := fun k hk => ih k (by have := hil k hk; omega) (hin k hk)
    rw [hg.val b hlt] at hv
    rw [hg.val c hlt]
    clear hin hil hd
    generalize gs[i] = g at *
    unfold gv at hv ⊢
    unfold insG at step
    by_cases h1 : g.k = 1
    · rw [if_pos h1] at hv ⊢
      exact hbc _ (by omega) (by omega) hv
    rw [if_neg h1] at hv ⊢
    by_cases h2 : g.k = 2
    · rw [if_pos h2]
    rw [if_neg h2, if_neg hk] at hv ⊢
    rw [if_neg hk] at step
    by_cases h5 : g.k = 5
    · rw [if_pos h5, Bool.and_eq_true] at hv ⊢
      rw [if_pos (.inl h5)] at step
      exact ⟨step _ (by simp) hv.1, step _ (by simp) hv.2⟩
    rw [if_neg h5] at hv ⊢
    by_cases h6 : g.k = 6
    · rw [if_pos h6, Bool.or_eq_true] at hv ⊢
      rw [if_pos (.inr h6)] at step
      exact hv.imp (step _ (by simp)) (step _ (by simp))
    rw [if_neg h6] at hv
    exact absurd hv (by simp)
theorem mono_cval {vars : Int} {gs : List Gt} (h : circB vars gs = true) (hm : monoB gs = true) {b c : Nat} (hbc : ∀ u : Int, 1 ≤ u → u ≤ vars → bitG b u = true → bitG c u = true) (hv : cval gs b = true) : cval gs c = true := by
  obtain ⟨h0, h1, hp, hl, hg⟩ := circ_vars h
  exact mono_vals hg hp hm hbc gs.length _ (by omega) (List.mem_of_getLast? (need_needs hg hp).2) hv

/-! ### The variables of a circuit. -/
def varsT (gs : List Gt) (l : List Nat) : List Int := (l.filter fun i => decide ((gs.getD i ⟨0, 0, 0⟩).k = 1)).map fun i => (gs.getD i ⟨0, 0, 0⟩).a
theorem varsT_snoc (gs : List Gt) (l : List Nat) (i : Nat) : varsT gs (l ++ [i]) = if (gs.getD i ⟨0, 0, 0⟩).k = 1 then varsT gs l ++ [(gs.getD i ⟨0, 0, 0⟩).a] else varsT gs l := by
  unfold varsT
  rw [List.filter_append, List.map_append]
  by_cases h : (gs.getD i ⟨0, 0, 0⟩).k = 1
  · rw [if_pos h, List.filter_cons_of_pos (by exact decide_eq_true h)]; rfl
  · rw [if_neg h, List.filter_cons_of_neg (by simpa using h)]; simp
theorem varsT_len (gs : List Gt) (l : List Nat) : (varsT gs l).length ≤ l.length := by
  unfold varsT
  rw [List.length_map]
  exact List.length_filter_le _ _
theorem varsT_no {v : Int} {val : Bool} {gs : List Gt} {l : List Nat} (hl : ∀ i ∈ l, i < gs.length) : v ∉ varsT (restG v val gs) l := by
  unfold varsT
  intro h
  obtain ⟨i, hi, e⟩ := List.mem_map.1 h
  obtain ⟨hi1, hi2⟩ := List.mem_filter.1 hi
  have hlt : i < (restG v val gs).length := by rw [restG_len]; exact hl i hi1
  have hd : (restG v val gs).getD i ⟨0, 0, 0⟩ = (restG v val gs)[i] := by rw [List.getD_eq_getElem?_getD, List.getElem?_eq_getElem hlt]; rfl
  rw [hd] at e hi2
  exact rest_no hlt (of_decide_eq_true hi2) e
end Go.Proofs.Ytkhopkonddgicaa

/- Contracts: numbers sorted and without repetitions, in the library. -/
namespace Go.Proofs.Ytkhopkonddgicaa
open Go.RowKit Go.Sort

theorem sortI_any (xs : List Int) (B : Option Addr) (cc : Nat) (w0 w : World) (ps : List Asn) (S : Sp w0 w (Own 3 1 (.slice B xs.length cc) xs.length (xs.map (.int .i64)) :: ps)) (hl : xs.length ≤ 1000000) :
    Calls Try.prog 102 #[.slice B xs.length cc] w fun e w' => e = .returned (.tuple #[]) ∧ Sp w0 w' (Own 3 1 (.slice B xs.length cc) xs.length ((xs.mergeSort fun x y => decide (x ≤ y)).map (.int .i64)) :: ps) := by
  rcases Nat.eq_zero_or_pos xs.length with h0 | h0
  · obtain rfl : xs = [] := List.length_eq_zero_iff.1 h0
    refine (Try.slices_Sort_int_none B cc w).mono ?_
    rintro e w' ⟨rfl, rfl⟩
    refine ⟨rfl, ?_⟩
    rw [List.mergeSort_nil]
    exact S
  · obtain ⟨g, cap, cur, e1, h0', hg, hnc, hmx, hc, ht⟩ := own_block (S.own (i := 0) rfl) h0
    simp only [Value.slice.injEq] at e1
    obtain ⟨rfl, -, rfl⟩ := e1
    rw [Nat.mul_one] at ht
    have hH := holds_of_blockI hg ht
    refine (Try.slices_Sort_int g 0 cc xs w hH (S.own (i := 0) rfl |> fun h => owns_lt h rfl) (by omega)).mono ?_
    rintro e w' ⟨rfl, n, os, rfl⟩
    exact ⟨rfl, S.own_push (i := 0) rfl (bb _) (ownsRow_sortedI (List.length_mergeSort _) (Nat.zero_le _) hg hnc hmx hc) (grownBy_sortedI _) (.inl rfl)⟩

theorem compactI_any (xs : List Int) (B : Option Addr) (cc : Nat) (w0 w : World) (ps : List Asn) (S : Sp w0 w (Own 3 1 (.slice B xs.length cc) xs.length (xs.map (.int .i64)) :: ps)) (hl : xs.length ≤ 1000000) :
    Calls Try.prog 103 #[.slice B xs.length cc] w fun e w' => e = .returned (.slice B (Lib.compact xs).length cc) ∧ Sp w0 w' (Own 3 1 (.slice B (Lib.compact xs).length cc) (Lib.compact xs).length ((Lib.compact xs).map (.int .i64)) :: ps) := by
  rcases Nat.eq_zero_or_pos xs.length with h0 | h0
  · obtain rfl : xs = [] := List.length_eq_zero_iff.1 h0
    refine (Try.slices_Compact_int_empty B cc w).mono ?_
    rintro e w' ⟨rfl, rfl⟩
    exact ⟨rfl, S⟩
  · obtain ⟨g, cap, cur, e1, h0', hg, hnc, hmx, hc, ht⟩ := own_block (S.own (i := 0) rfl) h0
    simp only [Value.slice.injEq] at e1
    obtain ⟨rfl, -, rfl⟩ := e1
    rw [Nat.mul_one] at ht
    have hH := holds_of_blockI hg ht
    have hcl : (Lib.compact xs).length ≤ xs.length := Lib.compact_length_le xs
    refine (Try.slices_Compact_int g 0 cc xs w hH (by omega) hnc).mono ?_
    rintro e w' ⟨rfl, q, rfl⟩
    have h := S.own_putRow (i := 0) (q := q) (m := (Lib.compact xs).length) (Value.int .i64) (Lib.compact xs ++ List.replicate (xs.length - (Lib.compact xs).length) 0).toArray rfl (by simp; omega) (by simp) h0
    refine ⟨rfl, ?_⟩
    have e2 : (((Lib.compact xs ++ List.replicate (xs.length - (Lib.compact xs).length) 0).toArray.toList.map (Value.int .i64)).take (Lib.compact xs).length) = (Lib.compact xs).map (.int .i64) := by
      rw [List.toList_toArray, List.map_append, List.take_append_of_le_length (by simp), List.take_of_length_le (by simp)]
    rw [e2] at h
    exact h
end Go.Proofs.Ytkhopkonddgicaa

/- An own row of numbers with one more. No program in sight. -/
namespace Go.Proofs.Ytkhopkonddgicaa
open Go.RowKit

theorem ownI_snoc {w0 w : World} {ps : List Asn} {e : TypeId} {d : List Int} {x : Int} {A : Option Addr} {c : Nat} (S : Sp w0 w (Own e 1 (.slice A (d.length + 1) c) (d.length + 1) (d.map (.int .i64) ++ [.int .i64 x]) :: ps)) :
    Sp w0 w (Own e 1 (.slice A (d ++ [x]).length c) (d ++ [x]).length ((d ++ [x]).map (.int .i64)) :: ps) := by
  rw [List.map_append, List.length_append]; exact S
theorem ownI_snocC {w0 w : World} {g cl cc A0 : Nat} {ca : Option Addr} {ps : List Asn} {e : TypeId} {d : List Int} {x : Int} {A : Option Addr} {c : Nat} (S : CS w0 g ca cl cc A0 w (Own e 1 (.slice A (d.length + 1) c) (d.length + 1) (d.map (.int .i64) ++ [.int .i64 x]) :: ps)) :
    CS w0 g ca cl cc A0 w (Own e 1 (.slice A (d ++ [x]).length c) (d ++ [x]).length ((d ++ [x]).map (.int .i64)) :: ps) := by
  rw [List.map_append, List.length_append]; exact S
end Go.Proofs.Ytkhopkonddgicaa

/- Contracts: monotone circuits and the variables of a circuit, in the program. -/
namespace Go.Proofs.Ytkhopkonddgicaa
open Go.RowKit

theorem monoLook_any (b cap : Nat) (A : Option Addr) (gs : List Gt) (x : Nat) (hx : x < gs.length) (w : World) (h0 : w.cell? ⟨b, 0, none⟩ = some (.slice A gs.length cap)) (hG : GtAt w A gs) :
    Calls Try.prog 99 #[.int .i64 x, .pointer (some ⟨b, 0, none⟩)] w fun e w' => e = .returned (.bool ((gs.getD x ⟨0, 0, 0⟩).k == 4)) ∧ Below w.heap.size w w' := by
  obtain ⟨bg, og, e, m0, m1, m2⟩ := hG.at_ x hx
  cases e
  have hd : gs.getD x ⟨0, 0, 0⟩ = gs[x] := by rw [List.getD_eq_getElem?_getD, List.getElem?_eq_getElem hx]; rfl
  rw [hd]
  have hxi : (x : Int) < gs.length := by omega
  generalize gs[x].k = z at m0
  clear hG hd m1 m2
  cases hz : (z == 4)
  · go_enter Try.func99, Try.ntmps99
    go_wp2_with fail
    go_ret
    exact ⟨rfl, bb _⟩
  · go_enter Try.func99, Try.ntmps99
    go_wp2_with fail
    go_ret
    exact ⟨rfl, bb _⟩

theorem mono_any_eq (gs : List Gt) (l : List Nat) : (natI l).any (fun x => (gs.getD x.toNat ⟨0, 0, 0⟩).k == 4) = l.any fun i => decide ((gs.getD i ⟨0, 0, 0⟩).k = 4) := by
  unfold natI
  rw [List.any_map]
  rfl

set_option maxRecDepth 100000 in
set_option maxHeartbeats 8000000 in
theorem isMonotone_any {vars : Int} (A : Option Addr) (c : Nat) (gs : List Gt) (w : World) (hx : GtAt w A gs) (hg : OkG vars gs) (hp : 0 < gs.length) (hl : gs.length ≤ 1000) (hv : vars ≤ 1000) :
    Calls Try.prog 66 #[.slice A gs.length c] w fun e w' => e = .returned (.bool (monoB gs)) ∧ Below w.heap.size w w' := by
  have S0 := (Sp.start w).alloc_box #[.slice A gs.length c] 28
  have c0 := S0.cell (i := 0) rfl (o := 0) rfl
  have hX := Lib.hid hx
  have hcall := Lib.hid (needed_any A c gs _ (hx.grow S0.below) hg hp hl hv)
  have hN := Lib.hid (need_needs hg hp).1
  have hnl := needL_len hg hp
  have hME := mono_any_eq gs (needL gs)
  have hM : monoB gs = !((needL gs).any fun i => decide ((gs.getD i ⟨0, 0, 0⟩).k = 4)) := rfl
  have eg : Enter1 99 := enters_of Try.func99 (by kernel_rfl) rfl
  rw [hM, ← hME]
  generalize needL gs = need at hcall hN hnl ⊢
  obtain ⟨n, hn⟩ : ∃ n, need.length = n := ⟨_, rfl⟩
  rw [hn] at hcall hnl
  obtain ⟨r, hr⟩ : ∃ r, ((natI need).any fun x => (gs.getD x.toNat ⟨0, 0, 0⟩).k == 4) = r := ⟨_, rfl⟩
  rw [hr]
  replace hr := Lib.hid hr
  replace hn := Lib.hid hn
  replace eg := Lib.hid eg
  replace S0 := Lib.hid S0
  clear hx hg hM hME
  go_enter Try.func66, Try.ntmps66
  go_wp2_with fail
  refine hcall.out.mono ?_
  rintro e w1 ⟨v, rfl, S1⟩
  obtain ⟨aN, cN, rfl⟩ := own_slice (S1.own (i := 0) rfl)
  have hB1 := S1.below
  have hI := S1.intsN (i := 0) rfl hn.out (fun x hx => by have := hN.out.lt x hx; omega)
  have hB := Lib.hid (btr S0.out.below hB1)
  have hb0 := (S0.out.box (i := 0) rfl).2.1
  have c1 := (hB1.cell (p := ⟨w.heap.size, 0, none⟩) hb0).trans c0
  have hlook := Lib.hid (containsI_any (p := fun x => (gs.getD x.toNat ⟨0, 0, 0⟩).k == 4) (R := fun x => ∃ k : Nat, k ∈ need ∧ x = k) (cb := #[.pointer (some ⟨w.heap.size, 0, none⟩)]) eg.out (natI need) aN cN w1 hI (by rw [natI_len, hn.out]; omega) (fun x hx => by
    obtain ⟨k, hk, rfl⟩ := List.mem_map.1 (show x ∈ need.map _ from hx)
    exact ⟨k, hk, rfl⟩) (fun x W hR hW => by
    obtain ⟨k, hk, rfl⟩ := hR
    exact monoLook_any w.heap.size c A gs k (hN.out.lt k hk) W ((hW.cell (p := ⟨w.heap.size, 0, none⟩) (Nat.lt_of_lt_of_le hb0 hB1.size)).trans c1) (hX.out.grow (btr hB.out hW))))
  rw [natI_len, hn.out, hr.out] at hlook
  clear hcall S1 hB1 hI hb0 c0 S0
  go_wp2_with fail
  refine hlook.out.mono ?_
  rintro e w2 ⟨rfl, hb2⟩
  replace hB := Lib.hid (btr hB.out hb2)
  clear hb2 hlook c1
  go_wp2_with fail
  go_ret
  exact ⟨rfl, hB.out⟩

set_option maxRecDepth 100000 in
set_option maxHeartbeats 8000000 in
theorem isMonotoneM_any (vars : Int) (A : Option Addr) (c : Nat) (gs : List Gt) (w : World) (hx : GtAt w A gs) (hl : gs.length ≤ 1000) :
    Calls Try.prog 28 #[.int .i64 vars, .slice A gs.length c] w fun e w' => e = .returned (.tuple #[.bool (circB vars gs && monoB gs), .bool (circB vars gs)]) ∧ Below w.heap.size w w' := by
  have hc := isCircuit_any vars A c gs w hx (by omega)
  cases hq : circB vars gs
  · rw [hq] at hc
    replace hc := Lib.hid hc
    clear hx hq
    go_enter Try.func28, Try.ntmps28
    go_wp2_with fail
    refine hc.out.mono ?_
    rintro e w1 ⟨rfl, hb1⟩
    replace hb1 := Lib.hid hb1
    go_wp2_with fail
    go_ret2
    exact ⟨rfl, hb1.out⟩
  · rw [hq] at hc
    obtain ⟨-, hv, hp, -, hok⟩ := circ_vars hq
    have hf := Lib.hid (fun W (h : Below w.heap.size w W) => isMonotone_any A c gs W (hx.grow h) hok hp hl (by omega))
    replace hc := Lib.hid hc
    rw [Bool.true_and]
    generalize monoB gs = r at hf ⊢
    clear hx hq hok
    go_enter Try.func28, Try.ntmps28
    go_wp2_with fail
    refine hc.out.mono ?_
    rintro e w1 ⟨rfl, hb1⟩
    have hf2 := Lib.hid (hf.out _ hb1)
    replace hb1 := Lib.hid hb1
    clear hf hc
    go_wp2_with fail
    refine hf2.out.mono ?_
    rintro e w2 ⟨rfl, hb2⟩
    have hB := Lib.hid (btr hb1.out hb2)
    clear hf2 hb1 hb2
    go_wp2_with fail
    go_ret2
    exact ⟨rfl, hB.out⟩

/-- The variables that the program tells. -/
def varsG (gs : List Gt) : List Int := Lib.compact ((varsT gs (needL gs)).mergeSort fun x y => decide (x ≤ y))

set_option maxRecDepth 100000 in
set_option maxHeartbeats 8000000 in
theorem circuitVars_any {vars : Int} (A : Option Addr) (c : Nat) (gs : List Gt) (w : World) (hx : GtAt w A gs) (hg : OkG vars gs) (hp : 0 < gs.length) (hl : gs.length ≤ 1000) (hv : vars ≤ 1000) :
    Calls Try.prog 78 #[.slice A gs.length c] w fun e w' => ∃ B cc, e = .returned (.slice B (varsG gs).length cc) ∧ Sp w w' [Own 3 1 (.slice B (varsG gs).length cc) (varsG gs).length ((varsG gs).map (.int .i64))] := by
  obtain ⟨i0, hi0, hy0, hy1, hy2⟩ := info_parts infoInt
  have hX := Lib.hid hx
  have hcall := Lib.hid (needed_any A c gs _ hx hg hp hl hv)
  have hN := Lib.hid (need_needs hg hp).1
  have hnl := needL_len hg hp
  have hG : varsG gs = Lib.compact ((varsT gs (needL gs)).mergeSort fun x y => decide (x ≤ y)) := rfl
  rw [hG]
  generalize needL gs = need at hcall hN hnl ⊢
  obtain ⟨n, hn⟩ : ∃ n, need.length = n := ⟨_, rfl⟩
  rw [hn] at hcall hnl
  replace hn := Lib.hid hn
  obtain ⟨vt, hvt⟩ : ∃ vt, varsT gs need = vt := ⟨_, rfl⟩
  rw [hvt]
  obtain ⟨zs, hz⟩ : ∃ zs, Lib.compact (vt.mergeSort fun x y => decide (x ≤ y)) = zs := ⟨_, rfl⟩
  rw [hz]
  replace hz := Lib.hid hz
  replace hvt := Lib.hid hvt
  clear hx hg hG
  go_enter Try.func78, Try.ntmps78
  go_wp2_with fail
  refine hcall.out.mono ?_
  rintro e w1 ⟨v, rfl, S1⟩
  obtain ⟨aN, cN, rfl⟩ := own_slice (S1.own (i := 0) rfl)
  have S2 := Lib.hid (S1.own_nil 3 1)
  clear hcall S1
  go_wp2_with fail
  go_loopw [9, 3] (fun i o wr => ∃ (q : Nat) (ys : List Int) (B : Option Addr) (cc : Nat), q ≤ n ∧ i = .int .i64 q ∧ o = .slice B ys.length cc ∧ ys.length ≤ q ∧ Hid (ys = varsT gs (need.take q)) ∧ Hid (Sp w wr [Own 3 1 (.slice B ys.length cc) ys.length (ys.map (.int .i64)), Own 3 1 (.slice aN n cN) n ((natI need).map (.int .i64))])) (fun i _ _ => n - (intOf i).toNat)
  case atStart => exact ⟨0, [], none, 0, Nat.zero_le _, rfl, rfl, Nat.le_refl _, rfl, S2⟩
  case round =>
    clear S2
    obtain ⟨q, ys, B, cc, hq, rfl, rfl, hyq, hys, HS⟩ := hrel
    by_cases hlt : q < n
    · have hqi : (q : Int) < n := by omega
      have hX2 := hX.out.grow HS.out.below
      have hI := HS.out.intsN (i := 1) rfl hn.out (fun x hx => by have := hN.out.lt x hx; omega)
      have hql : q < need.length := by rw [hn.out]; exact hlt
      obtain ⟨b, off, e, hc⟩ := hI.at_ q (by rw [natI_len]; exact hql)
      cases e
      have hv2 : (natI need)[q]'(by rw [natI_len]; exact hql) = ((need[q] : Nat) : Int) := by simp [natI]
      rw [hv2] at hc
      have hxl := hN.out.lt _ (List.getElem_mem hql)
      have htk : varsT gs (need.take (q + 1)) = if (gs.getD need[q] ⟨0, 0, 0⟩).k = 1 then varsT gs (need.take q) ++ [(gs.getD need[q] ⟨0, 0, 0⟩).a] else varsT gs (need.take q) := by
        rw [List.take_succ_eq_append_getElem hql, varsT_snoc]
      rw [← hys.out] at htk
      generalize need[q] = x at hc hxl htk
      have hxi : (x : Int) < gs.length := by omega
      obtain ⟨bg, og, e, m0, m1, m2⟩ := hX2.at_ x hxl
      cases e
      have hd : gs.getD x ⟨0, 0, 0⟩ = gs[x] := by rw [List.getD_eq_getElem?_getD, List.getElem?_eq_getElem hxl]; rfl
      rw [hd] at htk
      clear hd
      generalize gs[x] = g at m0 m1 m2 htk
      obtain ⟨gk, ga, gb⟩ := g
      dsimp only at m0 m1 m2 htk
      clear m2 hX2 hI hv2 hql
      by_cases h1 : gk = 1
      · rw [if_pos h1] at htk
        subst h1
        have hyl : ys.length ≤ 1000000 := by omega
        have hlen1 : (ys ++ [ga]).length ≤ q + 1 := by simp; omega
        replace htk := Lib.hid htk
        replace hlen1 := Lib.hid hlen1
        have S3 := HS.out.alloc_box #[.int .i64 ga] 3
        have kB := S3.cell (i := 0) rfl (o := 0) rfl
        replace S3 := Lib.hid S3
        clear HS
        go_wp2_with (at_builtin; refine wpList_append_src rfl _ _ rfl Try.underlying45 hi0 hy0 hy1 hy2 rfl (by decide) _ _ _ rfl (S3.out.own (i := 1) rfl) _ 1 1 [.int .i64 ga] rfl (Src.one kB) (by simp [Value.oneCell']) ?c3 ?c4 ?_)
        case c3 => unfold maxLen; omega
        case c4 => omega
        intro vY wY hownY hgY hatY
        have S4 := (S3.out.own_push (i := 1) rfl (bb _) hownY hgY (by simpa using hatY)).tail
        obtain ⟨aY, cY, rfl⟩ := own_slice hownY
        have S5 := Lib.hid (ownI_snoc (d := ys) (x := ga) S4)
        clear S3 S4 kB hownY hgY hatY
        have hlen : ys.length + 1 = (ys ++ [ga]).length := by simp
        rw [hlen]
        replace hlen := Lib.hid hlen
        generalize ys ++ [ga] = us2 at *
        go_wp2_with fail
        go_roundw
        case rel => exact ⟨q + 1, us2, aY, cY, by omega, by go_num, rfl, hlen1.out, htk.out.symm, S5⟩
        case measure => simp [intOf]; omega
      · rw [if_neg h1] at htk
        have hk1 : (gk == 1) = false := beq_eq_false_iff_ne.2 h1
        replace htk := Lib.hid htk
        go_wp2_with fail
        go_roundw
        case rel => exact ⟨q + 1, ys, B, cc, by omega, by go_num, rfl, by omega, htk.out.symm, HS⟩
        case measure => simp [intOf]; omega
    · obtain rfl : q = n := by omega
      have hyl : ys.length ≤ 1000000 := by omega
      obtain rfl : vt = ys := by
        have := hys.out
        rw [List.take_of_length_le (by rw [hn.out]; omega)] at this
        exact hvt.out.symm.trans this.symm
      have hso := Lib.hid (sortI_any vt B cc _ _ _ HS.out hyl)
      clear HS hys hvt
      go_wp2_with fail
      refine hso.out.mono ?_
      rintro e w2 ⟨rfl, S2⟩
      have hel : vt.length = (vt.mergeSort fun x y => decide (x ≤ y)).length := (List.length_mergeSort _).symm
      rw [hel] at S2 hyl ⊢
      have hco := Lib.hid (compactI_any _ B cc _ _ _ S2 hyl)
      clear S2 hso
      replace hel := Lib.hid hel
      rw [hz.out] at hco
      clear hz
      generalize (vt.mergeSort fun x y => decide (x ≤ y)) = ys2 at *
      go_wp2_with fail
      refine hco.out.mono ?_
      rintro e w3 ⟨rfl, S3⟩
      replace S3 := Lib.hid (S3.pick [0] rfl)
      go_wp2_with fail
      go_ret
      exact ⟨B, cc, rfl, S3.out⟩

set_option maxRecDepth 100000 in
set_option maxHeartbeats 8000000 in
theorem circuitVarsM_any (vars : Int) (A : Option Addr) (c : Nat) (gs : List Gt) (w : World) (hx : GtAt w A gs) (hq : circB vars gs = true) :
    Calls Try.prog 33 #[.int .i64 vars, .slice A gs.length c] w fun e w' => ∃ B cc, e = .returned (.tuple #[.slice B (varsG gs).length cc, .bool true]) ∧ Sp w w' [Own 3 1 (.slice B (varsG gs).length cc) (varsG gs).length ((varsG gs).map (.int .i64))] := by
  obtain ⟨-, hv, hp, hl, hok⟩ := circ_vars hq
  have hc := isCircuit_any vars A c gs w hx (by omega)
  rw [hq] at hc
  have hf := Lib.hid (fun W (h : Below w.heap.size w W) => circuitVars_any A c gs W (hx.grow h) hok hp (by omega) (by omega))
  replace hc := Lib.hid hc
  generalize varsG gs = zs at hf ⊢
  clear hx hq hok
  go_enter Try.func33, Try.ntmps33
  go_wp2_with fail
  refine hc.out.mono ?_
  rintro e w1 ⟨rfl, hb1⟩
  have hf2 := Lib.hid (hf.out _ hb1)
  replace hb1 := Lib.hid (Sp.of_below hb1)
  clear hf hc
  go_wp2_with fail
  refine hf2.out.mono ?_
  rintro e w2 ⟨B, d, rfl, S2⟩
  have S3 := Lib.hid (hb1.out.seq S2)
  clear hf2 hb1 S2
  go_wp2_with fail
  go_ret2
  exact ⟨B, d, rfl, S3.out⟩
end Go.Proofs.Ytkhopkonddgicaa

/- Plain facts: needed gates as a filter; how small a folded circuit is. No program in sight. -/
namespace Go.Proofs.Ytkhopkonddgicaa

theorem ascN_ext : ∀ {l l' : List Nat}, l.Pairwise (· < ·) → l'.Pairwise (· < ·) → (∀ x, x ∈ l ↔ x ∈ l') → l = l'
  | [], [], _, _, _ => rfl
  | [], b :: l', _, _, h => absurd ((h b).2 (by simp)) (by simp)
  | a :: l, [], _, _, h => absurd ((h a).1 (by simp)) (by simp)
  | a :: l, b :: l', h1, h2, h => by
    rw [List.pairwise_cons] at h1 h2
    have hab : a = b := by
      rcases List.mem_cons.1 ((h a).1 (by simp)) with e | e
      · exact e
      · rcases List.mem_cons.1 ((h b).2 (by simp)) with e' | e'
        · exact e'.symm
        · have := h2.1 a e
          have := h1.1 b e'
          omega
    subst hab
    congr 1
    refine ascN_ext h1.2 h2.2 fun x => ⟨fun hx => ?_, fun hx => ?_⟩
    · rcases List.mem_cons.1 ((h x).1 (by simp [hx])) with e | e
      · subst e; have := h1.1 x hx; omega
      · exact e
    · rcases List.mem_cons.1 ((h x).2 (by simp [hx])) with e | e
      · subst e; have := h2.1 x hx; omega
      · exact e
theorem rangeN_asc (n : Nat) : (List.range n).Pairwise (· < ·) := List.pairwise_lt_range
/-- Whether a gate is needed. -/
def needB (gs : List Gt) : Nat → Bool := (needF gs (downN gs.length)).1
theorem needL_filter {vars : Int} {gs : List Gt} (hg : OkG vars gs) (hp : 0 < gs.length) : needL gs = (List.range gs.length).filter (needB gs) := by
  have h := need_inv hg hp
  refine ascN_ext (need_needs hg hp).1.asc (List.Pairwise.filter _ (rangeN_asc _)) fun x => ?_
  unfold needL needB
  rw [List.mem_reverse, h.mem, List.mem_filter, List.mem_range]
  constructor
  · rintro ⟨_, h2⟩; exact ⟨h.lt x h2, h2⟩
  · rintro ⟨_, h2⟩; exact ⟨Nat.zero_le _, h2⟩
theorem idx_filter {f : Nat → Bool} {n k : Nat} (hk : k < n) (hf : f k = true) : ((List.range n).filter f).idxOf k = ((List.range k).filter f).length := by
  obtain ⟨d, rfl⟩ : ∃ d, n = k + 1 + d := ⟨n - (k + 1), by omega⟩
  have e : List.range (k + 1 + d) = List.range k ++ (k :: (List.range d).map (k + 1 + ·)) := by
    rw [List.range_add, List.range_succ, List.append_assoc]; rfl
  rw [e, List.filter_append, List.filter_cons_of_pos hf, List.idxOf_append, if_neg (fun hm => by
    have := (List.mem_filter.1 hm).1
    rw [List.mem_range] at this
    omega)]
  simp
/-- How many below a number are needed. -/
def cntF (f : Nat → Bool) (k : Nat) : Nat := ((List.range k).filter f).length
theorem cntF_succ (f : Nat → Bool) (k : Nat) : cntF f (k + 1) = if f k then cntF f k + 1 else cntF f k := by
  unfold cntF
  rw [List.range_succ, List.filter_append]
  cases h : f k
  · simp [h]
  · simp [h]
theorem cntF_le (f : Nat → Bool) (k : Nat) : cntF f k ≤ k := Nat.le_trans (List.length_filter_le _ _) (by simp)
theorem mv_congr {f f' : Nat → Nat} {g : Gt} (h : ∀ k ∈ insG g, f k = f' k) : mvG f g = mvG f' g := by
  unfold insG at h
  unfold mvG
  by_cases h4 : g.k = 4
  · rw [if_pos h4] at h
    rw [if_pos h4, if_pos h4, h _ (by simp)]
  by_cases h5 : g.k = 5 ∨ g.k = 6
  · rw [if_neg h4, if_pos h5] at h
    rw [if_neg h4, if_neg h4, if_pos h5, if_pos h5, h _ (by simp), h g.b.toNat (by simp)]
  · rw [if_neg h4, if_neg h4, if_neg h5, if_neg h5]
/-- The gates that the reference has put out. -/
def trimT (gs : List Gt) (f : Nat → Bool) (q : Nat) : List Gt := ((List.range q).filter f).map fun i => mvG (cntF f) (gs.getD i ⟨0, 0, 0⟩)
theorem trimT_succ (gs : List Gt) (f : Nat → Bool) (q : Nat) : trimT gs f (q + 1) = if f q then trimT gs f q ++ [mvG (cntF f) (gs.getD q ⟨0, 0, 0⟩)] else trimT gs f q := by
  unfold trimT
  rw [List.range_succ, List.filter_append]
  cases h : f q
  · simp [h]
  · simp [h]
theorem trimT_len (gs : List Gt) (f : Nat → Bool) (q : Nat) : (trimT gs f q).length = cntF f q := by simp [trimT, cntF]
theorem trimT_all {vars : Int} {gs : List Gt} (hg : OkG vars gs) (hp : 0 < gs.length) : trimT gs (needB gs) gs.length = trimG gs (needL gs) := by
  have hN := (need_needs hg hp).1
  have hF := needL_filter hg hp
  unfold trimT trimG
  rw [← hF]
  refine List.map_congr_left fun i hi => mv_congr fun k hk => ?_
  have hk2 := hN.ins i hi k hk
  have hk3 : needB gs k = true := by rw [hF] at hk2; exact (List.mem_filter.1 hk2).2
  rw [hF, idx_filter (hN.lt k hk2) hk3]
  rfl
theorem needB_ins {vars : Int} {gs : List Gt} (hg : OkG vars gs) (hp : 0 < gs.length) {i : Nat} (hi : i < gs.length) (h : needB gs i = true) : ∀ k ∈ insG gs[i], needB gs k = true := by
  intro k hk
  have hN := (need_needs hg hp).1
  have hF := needL_filter hg hp
  have him : i ∈ needL gs := by rw [hF]; exact List.mem_filter.2 ⟨List.mem_range.2 hi, h⟩
  have hd : gs.getD i ⟨0, 0, 0⟩ = gs[i] := by rw [List.getD_eq_getElem?_getD, List.getElem?_eq_getElem hi]; rfl
  have := hN.ins i him k (by rw [hd]; exact hk)
  rw [hF] at this
  exact (List.mem_filter.1 this).2

/-- Why a gate is needed. -/
theorem need_why {vars : Int} {gs : List Gt} (hg : OkG vars gs) (hp : 0 < gs.length) : ∀ j ∈ needL gs, j = gs.length - 1 ∨ ∃ i ∈ needL gs, j ∈ insG (gs.getD i ⟨0, 0, 0⟩) := by
  have key : ∀ pre : List Nat, (∀ j, (needF gs pre).1 j = true → j = gs.length - 1 ∨ ∃ i ∈ (needF gs pre).2, j ∈ insG (gs.getD i ⟨0, 0, 0⟩)) := by
    intro pre
    induction pre using snoc_ind with
    | h0 => intro j hj; left; simpa [needF] using hj
    | h1 l a ih =>
      intro j hj
      rw [needF_snoc] at hj ⊢
      unfold needStep at hj ⊢
      cases ha : (needF gs l).1 a
      · rw [ha, if_neg (by decide)] at hj
        rw [if_neg (by decide)]
        exact ih j hj
      · rw [ha, if_pos rfl] at hj
        rw [if_pos rfl]
        simp only [Bool.or_eq_true, decide_eq_true_eq] at hj
        rcases hj with hj | hj
        · rcases ih j hj with h | ⟨i, hi, h⟩
          · exact .inl h
          · exact .inr ⟨i, List.mem_append.2 (.inl hi), h⟩
        · exact .inr ⟨a, List.mem_append.2 (.inr (by simp)), hj⟩
  intro j hj
  have h := need_inv hg hp
  unfold needL at hj ⊢
  rw [List.mem_reverse] at hj
  rcases key _ j ((h.mem j).1 hj).2 with h1 | ⟨i, hi, h1⟩
  · exact .inl h1
  · exact .inr ⟨i, List.mem_reverse.2 hi, h1⟩
end Go.Proofs.Ytkhopkonddgicaa
