/- Lemmas and contracts for a law, put together out of several texts: TrA HTailB TrB TrC TrD TxD CurR TxE. -/
import Derived.Test.YtahbepajeplcmaaGreatDoorMg3
import Derived.Test.YtahbepajeplcmaaGreatDoorMg2
import Derived.Shelf.Abstract
import Derived.Lib.RabinKarpLaws
import Derived.Lib.QuietBelow
import Derived.WalkKit
import Derived.Test.YtahbepajeplcmaaGreatDoorMg1
import Derived.Deep.RegionHeld
/- Contracts: whether a list holds an element for which a function answers yes; truth of clauses at bits. -/
namespace Go.Proofs.YtahbepajeplcmaaGreatDoor
open Go.RowKit

/-- Clauses that can be read. -/
structure ClsAt (w : World) (A : Option Addr) (xss : List (List Int)) : Prop where
  at_ : ∀ j (hj : j < xss.length), ∃ b off B c, A = some ⟨b, off, none⟩ ∧ w.cell? ⟨b, off + j, none⟩ = some (.slice B xss[j].length c) ∧ IntsAt w B xss[j]
theorem ClsAt.grow {w w' : World} {A : Option Addr} {xss : List (List Int)} (h : ClsAt w A xss) (hb : Below w.heap.size w w') : ClsAt w' A xss := by
  refine ⟨fun j hj => ?_⟩
  obtain ⟨b, off, B, c, e, h1, h2⟩ := h.at_ j hj
  exact ⟨b, off, B, c, e, (hb.cell (World.block_lt_of_cell? _ _ h1)).trans h1, h2.grow hb⟩
/-- A function of a clause, told by what it answers. -/
def FnS (R : List Int → Prop) (w0 : World) (g : FuncId) (cb : Array Value) (p : List Int → Bool) : Prop :=
  ∀ (xs : List Int) (A : Option Addr) (c : Nat) w, IntsAt w A xs → R xs → Below w0.heap.size w0 w → Calls Tryz.prog g (#[.slice A xs.length c] ++ cb) w fun e w' => e = .returned (.bool (p xs)) ∧ Below w.heap.size w w'
def idxP {α : Type} (p : α → Bool) (xs : List α) : Int := if xs.any p then (xs.findIdx p : Nat) else -1
theorem idxP_ge {α : Type} (p : α → Bool) (xs : List α) : decide (0 ≤ idxP p xs) = xs.any p := by
  unfold idxP
  cases h : xs.any p
  · rfl
  · simp
theorem idxP_here {α : Type} {p : α → Bool} {xs : List α} {k : Nat} (hk : k < xs.length) (h : (xs.take k).any p = false) (e : p xs[k] = true) : idxP p xs = k := by
  unfold idxP
  rw [if_pos (List.any_eq_true.2 ⟨xs[k], List.getElem_mem hk, e⟩)]
  have : xs.findIdx p = k := by
    rw [List.findIdx_eq hk]
    refine ⟨e, fun j hj => ?_⟩
    have h2 := List.any_eq_false.1 h xs[j] (by rw [List.mem_take_iff_getElem]; exact ⟨j, by omega, rfl⟩)
    simpa using h2
  rw [this]
theorem any_next {α : Type} {p : α → Bool} {xs : List α} {k : Nat} (hk : k < xs.length) (h : (xs.take k).any p = false) (e : p xs[k] = false) : (xs.take (k + 1)).any p = false := by
  rw [List.take_succ_eq_append_getElem hk, List.any_append, h]
  simp [e]
theorem idxP_none {α : Type} {p : α → Bool} {xs : List α} (h : (xs.take xs.length).any p = false) : idxP p xs = -1 := by
  unfold idxP
  rw [List.take_length] at h
  rw [h]; rfl

set_option maxRecDepth 100000 in
set_option maxHeartbeats 2000000 in
theorem indexFuncI_any {g : FuncId} {cb : Array Value} {p : Int → Bool} {R : Int → Prop} (eg : Enter1 g) (xs : List (Int)) (A : Option Addr) (c : Nat) (w : World) (hx : IntsAt w A xs) (hl : xs.length ≤ 1000000) (hR : ∀ x ∈ xs, R x) (hf : FnI R w g cb p) :
    Calls Tryz.prog 181 #[.slice A xs.length c, .func (.func g) #[] cb] w fun e w' => e = .returned (.int .i64 (idxP p xs)) ∧ Below w.heap.size w w' := by
  unfold Enter1 at eg
  have hN := Lib.hid hx
  replace hf := Lib.hid hf
  have hRR := Lib.hid hR
  have HB0 := Lib.hid (bb w)
  clear hx hR
  go_enter Tryz.func181, Tryz.ntmps181
  go_wp2_with fail
  go_loopw [5, 8] (fun _ i wr => ∃ k : Nat, k ≤ xs.length ∧ i = .int .i64 k ∧ Hid ((xs.take k).any p = false) ∧ Hid (Below w.heap.size w wr)) (fun _ i _ => xs.length - (intOf i).toNat)
  case atStart => exact ⟨0, Nat.zero_le _, rfl, rfl, HB0⟩
  case round =>
    obtain ⟨k, hk, rfl, HD, HB⟩ := hrel
    clear HB0
    by_cases hlt : k < xs.length
    · obtain ⟨b, off, rfl, m0⟩ := (hN.out.grow HB.out).at_ k hlt
      have hcall := Lib.hid (hf.out xs[k] wr (hRR.out _ (List.getElem_mem hlt)) HB.out)
      have hyes := Lib.hid (idxP_here hlt HD.out)
      have hno := Lib.hid (any_next hlt HD.out)
      generalize hq : p xs[k] = q at *
      clear hq
      cases q
      · have hD := Lib.hid (hno.out rfl)
        clear hyes hno HD
        go_wp2_with fail
        refine hcall.out.mono ?_
        rintro e w1 ⟨rfl, hb1⟩
        have HB2 := Lib.hid (btr HB.out hb1)
        clear hcall hb1 HB m0
        go_wp2_with fail
        go_roundw
        case rel => exact ⟨k + 1, by omega, by go_num, hD, HB2⟩
        case measure => simp [intOf]; omega
      · have hRes := Lib.hid (hyes.out rfl)
        clear hyes hno HD
        go_wp2_with fail
        refine hcall.out.mono ?_
        rintro e w1 ⟨rfl, hb1⟩
        have HB2 := Lib.hid (btr HB.out hb1)
        clear hcall hb1 HB m0
        go_wp2_with fail
        go_ret
        exact ⟨ret_int hRes.out.symm, HB2.out⟩
    · obtain rfl : k = xs.length := by omega
      have hRes := Lib.hid (idxP_none HD.out)
      go_wp2_with fail
      go_ret
      exact ⟨ret_int hRes.out.symm, HB.out⟩

theorem containsI_any {g : FuncId} {cb : Array Value} {p : Int → Bool} {R : Int → Prop} (eg : Enter1 g) (xs : List (Int)) (A : Option Addr) (c : Nat) (w : World) (hx : IntsAt w A xs) (hl : xs.length ≤ 1000000) (hR : ∀ x ∈ xs, R x) (hf : FnI R w g cb p) :
    Calls Tryz.prog 150 #[.slice A xs.length c, .func (.func g) #[] cb] w fun e w' => e = .returned (.bool (xs.any p)) ∧ Below w.heap.size w w' := by
  have hcall := Lib.hid (indexFuncI_any eg xs A c w hx hl hR hf)
  have hge := Lib.hid (idxP_ge p xs)
  generalize idxP p xs = i at *
  clear hx hf hR
  go_enter Tryz.func150, Tryz.ntmps150
  go_wp2_with fail
  refine hcall.out.mono ?_
  rintro e w1 ⟨rfl, hb1⟩
  clear hcall
  go_wp2_with fail
  go_ret
  exact ⟨ret_bool hge.out, hb1⟩

set_option maxRecDepth 100000 in
set_option maxHeartbeats 2000000 in
theorem indexFuncS_any {g : FuncId} {cb : Array Value} {p : List Int → Bool} {R : List Int → Prop} (eg : Enter1 g) (xs : List (List Int)) (A : Option Addr) (c : Nat) (w : World) (hx : ClsAt w A xs) (hl : xs.length ≤ 1000000) (hR : ∀ x ∈ xs, R x) (hf : FnS R w g cb p) :
    Calls Tryz.prog 162 #[.slice A xs.length c, .func (.func g) #[] cb] w fun e w' => e = .returned (.int .i64 (idxP p xs)) ∧ Below w.heap.size w w' := by
  unfold Enter1 at eg
  have hN := Lib.hid hx
  replace hf := Lib.hid hf
  have hRR := Lib.hid hR
  have HB0 := Lib.hid (bb w)
  clear hx hR
  go_enter Tryz.func162, Tryz.ntmps162
  go_wp2_with fail
  go_loopw [5, 8] (fun _ i wr => ∃ k : Nat, k ≤ xs.length ∧ i = .int .i64 k ∧ Hid ((xs.take k).any p = false) ∧ Hid (Below w.heap.size w wr)) (fun _ i _ => xs.length - (intOf i).toNat)
  case atStart => exact ⟨0, Nat.zero_le _, rfl, rfl, HB0⟩
  case round =>
    obtain ⟨k, hk, rfl, HD, HB⟩ := hrel
    clear HB0
    by_cases hlt : k < xs.length
    · obtain ⟨b, off, Bk, ck, rfl, m0, hI⟩ := (hN.out.grow HB.out).at_ k hlt
      have hcall := Lib.hid (hf.out xs[k] Bk ck wr hI (hRR.out _ (List.getElem_mem hlt)) HB.out)
      clear hI
      have hyes := Lib.hid (idxP_here hlt HD.out)
      have hno := Lib.hid (any_next hlt HD.out)
      generalize hq : p xs[k] = q at *
      clear hq
      cases q
      · have hD := Lib.hid (hno.out rfl)
        clear hyes hno HD
        go_wp2_with fail
        refine hcall.out.mono ?_
        rintro e w1 ⟨rfl, hb1⟩
        have HB2 := Lib.hid (btr HB.out hb1)
        clear hcall hb1 HB m0
        go_wp2_with fail
        go_roundw
        case rel => exact ⟨k + 1, by omega, by go_num, hD, HB2⟩
        case measure => simp [intOf]; omega
      · have hRes := Lib.hid (hyes.out rfl)
        clear hyes hno HD
        go_wp2_with fail
        refine hcall.out.mono ?_
        rintro e w1 ⟨rfl, hb1⟩
        have HB2 := Lib.hid (btr HB.out hb1)
        clear hcall hb1 HB m0
        go_wp2_with fail
        go_ret
        exact ⟨ret_int hRes.out.symm, HB2.out⟩
    · obtain rfl : k = xs.length := by omega
      have hRes := Lib.hid (idxP_none HD.out)
      go_wp2_with fail
      go_ret
      exact ⟨ret_int hRes.out.symm, HB.out⟩

theorem containsS_any {g : FuncId} {cb : Array Value} {p : List Int → Bool} {R : List Int → Prop} (eg : Enter1 g) (xs : List (List Int)) (A : Option Addr) (c : Nat) (w : World) (hx : ClsAt w A xs) (hl : xs.length ≤ 1000000) (hR : ∀ x ∈ xs, R x) (hf : FnS R w g cb p) :
    Calls Tryz.prog 118 #[.slice A xs.length c, .func (.func g) #[] cb] w fun e w' => e = .returned (.bool (xs.any p)) ∧ Below w.heap.size w w' := by
  have hcall := Lib.hid (indexFuncS_any eg xs A c w hx hl hR hf)
  have hge := Lib.hid (idxP_ge p xs)
  generalize idxP p xs = i at *
  clear hx hf hR
  go_enter Tryz.func118, Tryz.ntmps118
  go_wp2_with fail
  refine hcall.out.mono ?_
  rintro e w1 ⟨rfl, hb1⟩
  clear hcall
  go_wp2_with fail
  go_ret
  exact ⟨ret_bool hge.out, hb1⟩
end Go.Proofs.YtahbepajeplcmaaGreatDoor

/- A region that draws its order: as HTail, but the operations of the tail may come up in whatever order among themselves, once the head is done. No program in sight. -/
namespace Go.Proofs.YtahbepajeplcmaaGreatDoor

section
variable {P : Program} {ops : Array Oper} {Q : Exit → Act → World → Prop} {md : Region.Mode} {S : World → Prop} {n : Nat} {L : Array Bool → Act → World → Prop}

/-- Each operation behind number n waits for one of the tail that stands ahead of it. -/
def chainW (md : Region.Mode) (ops : Array Oper) (n : Nat) : Bool :=
  (List.range ops.size).all fun t => decide (t ≤ n) || (List.range t).any fun k => decide (n ≤ k) && Region.waitsFor md ops t k

theorem tail_waitsW {listed : Array Bool} (hs : Region.sinkB md ops n = true) (hc : chainW md ops n = true) (hn : n < ops.size) (inv : HeadInv md ops n listed) :
    ∀ (d i : Nat), n - i = d → i < n → listed.getD i true = false → ∀ t, n ≤ t → t ∉ Region.ready md ops listed := by
  intro d
  induction d using Nat.strongRecOn with
  | _ d ih =>
    intro i hd hi hun t ht hr
    obtain ⟨_, ot, hot, hall⟩ := mem_ready.1 hr
    have htlt : t < ops.size := (Array.getElem?_eq_some_iff.1 hot).1
    by_cases htn : t = n
    · subst htn
      have h1 := List.all_eq_true.1 hs i (List.mem_range.2 hi)
      obtain ⟨j, hj, hj2⟩ := List.any_eq_true.1 h1
      simp only [Bool.and_eq_true, decide_eq_true_eq] at hj2
      obtain ⟨oj, hoj, e, he, hb, hon⟩ := Region.waitsFor_spec hj2.2
      have hjle : j ≤ t := by have := List.mem_range.1 hj; omega
      by_cases hjt : j = t
      · subst hjt
        have : oj = ot := Option.some.inj (hoj.symm.trans hot)
        subst this
        have h2 := hall e he hb
        rw [hon, getD_both hun] at h2
        cases h2
      · cases hl : listed.getD j false with
        | true =>
          have h2 := inv.closed j oj hoj hl e he hb
          rw [hon, getD_both hun] at h2
          cases h2
        | false =>
          have hjs : j < listed.size := by rw [inv.size]; omega
          exact ih (t - j) (by omega) j rfl (by omega) (getD_in hjs hl) t (Nat.le_refl _) hr
    · have h1 := List.all_eq_true.1 hc t (List.mem_range.2 htlt)
      simp only [Bool.or_eq_true, decide_eq_true_eq] at h1
      rcases h1 with h1 | h1
      · omega
      · obtain ⟨k, hk, hk2⟩ := List.any_eq_true.1 h1
        simp only [Bool.and_eq_true, decide_eq_true_eq] at hk2
        have hkt := List.mem_range.1 hk
        obtain ⟨o', ho', e, he, hb, hon⟩ := Region.waitsFor_spec hk2.2
        have : o' = ot := Option.some.inj (ho'.symm.trans hot)
        subst this
        have h2 := hall e he hb
        rw [hon, getD_both (inv.tail k hk2.1 (by omega))] at h2
        cases h2

theorem headW_first {i : Nat} {oi : Oper} {v : Value} (hi : ops[i]? = some oi) (hsel : ∀ (j : Nat) (o : Oper) cs b, ops[j]? = some o → o.op ≠ .select cs b)
    (hQ : ∀ c a w, Q (.panic c) (a.put oi.dst v) w → Q (.panic c) a w)
    (hs : Region.sinkB md ops n = true) (hc : chainW md ops n = true) (hn : n < ops.size) (hin : i < n) (hL : ∀ s a w, L s a w → ∀ j ∈ Region.ready md ops s, n ≤ j) (f : Nat) :
    ∀ (s : Array Bool) (a : Act) (w : World), HeadInv md ops n s →
      (∀ j oj, ops[j]? = some oj → j ≠ i → s.getD j true = false → (∀ e ∈ oj.after, Region.binds md e = true → e.on ≠ i) → oi.apart ops oj = true) →
      i ∈ Region.ready md ops s → YieldsIf P ops S oi v a → S w → headH P md ops Q S n L f (s.setIfInBounds i true) (a.put oi.dst v) w → headH P md ops Q S n L (f + 1) s a w := by
  induction f with
  | zero =>
    intro s a w inv _ hr hy hS H
    refine ⟨List.ne_nil_of_mem hr, fun j hj => ?_⟩
    have hjn : j < n := Nat.lt_of_not_le fun h => tail_waitsW hs hc hn inv _ i rfl hin (mem_ready.1 hr).1 j h hj
    refine ⟨hjn, ?_⟩
    by_cases e : j = i
    · subst e; exact hy.wpOp hi hS ⟨hS, H⟩
    · exact absurd (hL _ _ _ H j (ready_mono hj e)) (by omega)
  | succ f ih =>
    intro s a w inv hfree hr hy hS H
    refine ⟨List.ne_nil_of_mem hr, fun j hj => ?_⟩
    have hjn : j < n := Nat.lt_of_not_le fun h => tail_waitsW hs hc hn inv _ i rfl hin (mem_ready.1 hr).1 j h hj
    refine ⟨hjn, ?_⟩
    by_cases e : j = i
    · subst e; exact hy.wpOp hi hS ⟨hS, H⟩
    · obtain ⟨hjs, oj, hoj, hall⟩ := mem_ready.1 hj
      have hno : ∀ e ∈ oj.after, Region.binds md e = true → e.on ≠ i := by
        intro x hx hb hxi
        have := hall x hx hb
        rw [hxi, getD_both (mem_ready.1 hr).1] at this; cases this
      have h1 := wpOp_putIf hoj (hfree j oj hoj e hjs hno) (fun cs b => hsel i oi cs b hi) (fun cs b => hsel j oj cs b hoj) hQ hy (H.2 j (ready_mono hj e)).2
      refine wpOp_mono (fun a' w' h2 => ⟨h2.2.1, ih (s.setIfInBounds j true) a' w' (inv.set hj hjn) (fun k ok hk hki hun hw => hfree k ok hk hki ?_ hw) (ready_mono hr (Ne.symm e)) h2.1 h2.2.1 ?_⟩) h1
      · by_cases hjk : j = k
        · subst hjk; exact hjs
        · rw [getD_set_ne true hjk] at hun; exact hun
      · rw [Array.setIfInBounds_comm _ _ e]; exact h2.2.2

/-- The checks on the region. -/
def tailOkW (md : Region.Mode) (ops : Array Oper) (n : Nat) : Bool := Region.noSelect ops && decide (n < ops.size) && Region.sinkB md ops n && chainW md ops n
/-- What stands behind the head: the rest, in whatever order. -/
def tailW (P : Program) (ops : Array Oper) (Q : Exit → Act → World → Prop) (n : Nat) (s : Array Bool) (a : Act) (w : World) : Prop :=
  (Region.ready .any ops s).all (fun j => decide (n ≤ j)) = true ∧ wpAnyH P .any ops Q (fun _ => True) (ops.size - n) s a w

/-- Take number i first. -/
theorem walkW_take {i : Nat} {oi : Oper} {v : Value} {f : Nat} {s : Array Bool} {a : Act} {w : World} (hi : ops[i]? = some oi) (hok : tailOkW .any ops n = true) (hin : i < n) (hf : Region.free .any ops s i = true)
    (hr : (Region.ready .any ops s).contains i = true) (hQ : ∀ c a w, Q (.panic c) (a.put oi.dst v) w → Q (.panic c) a w) (hy : YieldsIf P ops S oi v a) (hS : S w)
    (h : walkT P .any ops Q S n (tailW P ops Q n) f (s.setIfInBounds i true) (a.put oi.dst v) w) : walkT P .any ops Q S n (tailW P ops Q n) (f + 1) s a w := fun inv => by
  simp only [tailOkW, Bool.and_eq_true, decide_eq_true_eq] at hok
  obtain ⟨⟨⟨hsel, hn⟩, hs⟩, hc⟩ := hok
  have hr' : i ∈ Region.ready .any ops s := by simpa using hr
  exact headW_first hi (Region.noSelect_spec hsel) hQ hs hc hn hin (fun s' a' w' hL j hj => by simpa using List.all_eq_true.1 hL.1 j hj) f s a w inv (Region.free_spec hi hf) hr' hy hS (h (inv.set hr' hin))
/-- The head is done. -/
theorem walkW_done {s : Array Bool} {a : Act} {w : World} (hs : (Region.ready .any ops s).all (fun j => decide (n ≤ j)) = true) (h : (fun _ => True : World → Prop) w → wpAnyH P .any ops Q (fun _ => True) (ops.size - n) s a w) : walkT P .any ops Q S n (tailW P ops Q n) 0 s a w := fun _ => ⟨hs, h trivial⟩
end

/-- The beginning. -/
theorem wp_region_tailW {P : Program} {S : World → Prop} {id : Nat} {Q : Exit → Act → World → Prop} {a : Act} {w : World} {l : List Oper} (n : Nat) (hm : P.follows .mixedOrders = true) (hok : tailOkW .any l.toArray n = true) (hS : S w.drew)
    (h : S w.drew → walkT P .any l.toArray Q S n (tailW P l.toArray Q n) n (Array.replicate l.toArray.size false) a w.drew) : (Code.region id l.toArray true).wp P Q a w := by
  have hn : n < l.length := by simp only [tailOkW, Bool.and_eq_true, decide_eq_true_eq] at hok; simpa using hok.1.1.2
  have inv0 : HeadInv .any l.toArray n (Array.replicate l.toArray.size false) :=
    ⟨by simp, fun j oj _ hl => (by rw [getD_replicate_false] at hl; cases hl), fun t _ ht => getD_in (by simpa using ht) (getD_replicate_false _ _)⟩
  refine wp_region_any hm ?_
  have H2 := any_of_headH (Q := Q) (g := l.toArray.size - n) (fun s a' w' hL => wpAny_of_held _ _ _ _ hL.2) _ _ _ _ (h hS inv0)
  rw [show n + (l.toArray.size - n) = l.toArray.size by simp; omega] at H2
  exact H2
end Go.Proofs.YtahbepajeplcmaaGreatDoor

/- Contracts: truth of clauses and of Cnfs at bits, in the program. -/
namespace Go.Proofs.YtahbepajeplcmaaGreatDoor
open Go.RowKit

/-- A literal that can be told at bits. -/
def LitS (l : Int) : Prop := l ≠ 0 ∧ -1000 ≤ l ∧ l ≤ 1000
theorem LitS.i64 {l : Int} (h : LitS l) : I64 l := by unfold LitS at h; unfold I64; omega
theorem absV_lit {l : Int} (h : LitS l) : absV l = (l.natAbs : Int) := by
  unfold LitS at h
  unfold absV
  split
  · rw [negV_small (by unfold I64; omega) (by omega)]; omega
  · omega
/-- A bit that is shifted to the end. -/
theorem bit_at (b : Nat) (hb : b < 2 ^ 62) (m : Nat) : bits .and .i64 ((b : Int) / 2 ^ min m 64) 1 = if b.testBit m then 1 else 0 := by
  have e0 : (b : Int) / 2 ^ min m 64 = ((b / 2 ^ min m 64 : Nat) : Int) := by
    rw [Int.natCast_ediv, Int.natCast_pow]; rfl
  rw [e0, and_one _ (Nat.lt_of_le_of_lt (Nat.div_le_self _ _) (Nat.lt_trans hb (by decide)))]
  have h64 : ∀ s, 64 ≤ s → b.testBit s = false := fun s hs => Nat.testBit_lt_two_pow (Nat.lt_of_lt_of_le hb (Nat.pow_le_pow_right (by decide) (by omega)))
  have e : b.testBit m = b.testBit (min m 64) := by
    rcases Nat.lt_or_ge m 64 with h | h
    · rw [Nat.min_eq_left (by omega)]
    · rw [h64 _ h, h64 _ (by omega)]
  rw [e, Nat.testBit_eq_decide_div_mod_eq]
  rcases Nat.mod_two_eq_zero_or_one (b / 2 ^ min m 64) with h | h
  · rw [h]; simp
  · rw [h]; simp

set_option maxRecDepth 100000 in
set_option maxHeartbeats 4000000 in
theorem holds1_any (l : Int) (hl : LitS l) (b g : Nat) (hb : b < 2 ^ 62) (w : World) (k0 : w.cell? ⟨g, 0, none⟩ = some (.int .i64 b)) :
    Calls Tryz.prog 200 #[.int .i64 l, .pointer (some ⟨g, 0, none⟩)] w fun e w' => e = .returned (.bool (litT b l)) ∧ Below w.heap.size w w' := by
  obtain ⟨m, hm⟩ : ∃ m, l.natAbs = m + 1 := ⟨l.natAbs - 1, by unfold LitS at hl; omega⟩
  have ha := fun W => abs_at hl.i64 (absV_lit hl) W
  have hand := bit_at b hb m
  have hR : Hid (litT b l = (b.testBit (l.natAbs - 1) == decide (0 < l))) := rfl
  rw [hm, show m + 1 - 1 = m by omega] at hR
  rw [hm, show ((m + 1 : Nat) : Int) = (m : Int) + 1 by omega] at ha
  have hw1 : IntKind.i64.wrap ((m : Int) + 1 - 1) = (m : Int) := by rw [IntWalk.i64_in _ (by unfold LitS at hl; omega)]; omega
  have hw2 : IntKind.i64.wrap (m : Int) = (m : Int) := by rw [IntWalk.i64_in _ (by unfold LitS at hl; omega)]
  have hm2 : m ≤ 1000 := by unfold LitS at hl; omega
  generalize b.testBit m = q at *
  clear hm hl
  cases hp : decide (0 < l)
  all_goals
    rw [hp] at hR
    cases q
  all_goals
    simp only [if_true, if_false, Bool.false_eq_true] at hand
    go_enter Tryz.func200, Tryz.ntmps200
    go_wp2_with fail
    refine wp_region_held_lit (S := (fun w' => w'.cell? ⟨g, 0, none⟩ = some (.int .i64 b))) 11 [false, false, false, false, false, false, false, false, false, false, false] (by kernel_rfl) (by kernel_rfl) (by kernel_rfl) ?_ ?_
    · exact k0
    intro hS
    (refine wpAnyH_take (i := 0) (v := ?_) rfl (by kernel_rfl) (by kernel_rfl) (by kernel_rfl) (fun _ _ _ h => h) (Or.inl ⟨by rfl, ?_⟩) (by assumption) ?_; rotate_left; (focus (intro w hSw; (try dsimp only at hSw); go_simp; (try with_reducible rfl); done)); (try simp only [put_rules]))
    (refine wpAnyH_take (i := 1) (v := ?_) rfl (by kernel_rfl) (by kernel_rfl) (by kernel_rfl) (fun _ _ _ h => h) (Or.inl ⟨by rfl, ?_⟩) (by assumption) ?_; rotate_left; (focus (intro w hSw; (try dsimp only at hSw); go_simp; (try with_reducible rfl); done)); (try simp only [put_rules]))
    (refine wpAnyH_take (i := 7) (v := ?_) rfl (by kernel_rfl) (by kernel_rfl) (by kernel_rfl) (fun _ _ _ h => h) (Or.inl ⟨by rfl, ?_⟩) (by assumption) ?_; rotate_left; (focus (intro w hSw; (try dsimp only at hSw); go_simp; (try with_reducible rfl); done)); (try simp only [put_rules]))
    (refine wpAnyH_take (i := 8) (v := ?_) rfl (by kernel_rfl) (by kernel_rfl) (by kernel_rfl) (fun _ _ _ h => h) (Or.inl ⟨by rfl, ?_⟩) (by assumption) ?_; rotate_left; (focus (intro w hSw; (try dsimp only at hSw); go_simp; (try with_reducible rfl); done)); (try simp only [put_rules]))
    (refine wpAnyH_ready (rs := [2]) (by kernel_rfl) (by simp) ?_; refine AllReadyH.cons rfl (fun K hK => ?_) AllReadyH.nil)
    go_simp
    go_at_call 84
    refine (ha _).mono ?_
    rintro e w1 ⟨rfl, hb1⟩
    have hB1 := btr (bdr (bb w)) hb1
    have k1 := ((bcell hB1).1 g 0 (World.block_lt_of_cell? _ _ k0)).trans k0
    go_wp2_with fail
    refine hK.out _ _ k1 (fun hS2 => ?_)
    clear hK hS
    (try simp only [put_rules])
    (refine wpAnyH_take (i := 3) (v := ?_) rfl (by kernel_rfl) (by kernel_rfl) (by kernel_rfl) (fun _ _ _ h => h) (Or.inl ⟨by rfl, ?_⟩) (by assumption) ?_; rotate_left; (focus (intro w hSw; (try dsimp only at hSw); go_simp; (try with_reducible rfl); done)); (try simp only [put_rules]))
    (refine wpAnyH_take (i := 4) (v := ?_) rfl (by kernel_rfl) (by kernel_rfl) (by kernel_rfl) (fun _ _ _ h => h) (Or.inl ⟨by rfl, ?_⟩) (by assumption) ?_; rotate_left; (focus (intro w hSw; (try dsimp only at hSw); go_simp; (try with_reducible rfl); done)); (try simp only [put_rules]))
    (refine wpAnyH_take (i := 5) (v := ?_) rfl (by kernel_rfl) (by kernel_rfl) (by kernel_rfl) (fun _ _ _ h => h) (Or.inl ⟨by rfl, ?_⟩) (by assumption) ?_; rotate_left; (focus (intro w hSw; (try dsimp only at hSw); go_simp; (try with_reducible rfl); done)); (try simp only [put_rules]))
    (refine wpAnyH_take (i := 6) (v := ?_) rfl (by kernel_rfl) (by kernel_rfl) (by kernel_rfl) (fun _ _ _ h => h) (Or.inl ⟨by rfl, ?_⟩) (by assumption) ?_; rotate_left; (focus (intro w hSw; (try dsimp only at hSw); go_simp; (try with_reducible rfl); done)); (try simp only [put_rules]))
    (refine wpAnyH_take (i := 9) (v := ?_) rfl (by kernel_rfl) (by kernel_rfl) (by kernel_rfl) (fun _ _ _ h => h) (Or.inl ⟨by rfl, ?_⟩) (by assumption) ?_; rotate_left; (focus (intro w hSw; (try dsimp only at hSw); go_simp; (try with_reducible rfl); done)); (try simp only [put_rules]))
    (refine wpAnyH_take (i := 10) (v := ?_) rfl (by kernel_rfl) (by kernel_rfl) (by kernel_rfl) (fun _ _ _ h => h) (Or.inl ⟨by rfl, ?_⟩) (by assumption) ?_; rotate_left; (focus (intro w hSw; (try dsimp only at hSw); go_simp; (try with_reducible rfl); done)); (try simp only [put_rules]))
    (refine wpAnyH_done (by kernel_rfl) ?_ _)
    go_wp2_with fail
    go_ret
    exact ⟨ret_bool hR.out.symm, hB1⟩

set_option maxRecDepth 100000 in
theorem holds_any (c : List Int) (hc : ∀ l ∈ c, LitS l) (hl : c.length ≤ 1000000) (A : Option Addr) (cap b : Nat) (hb : b < 2 ^ 62) (w : World) (hx : IntsAt w A c) :
    Calls Tryz.prog 164 #[.slice A c.length cap, .int .i64 b] w fun e w' => e = .returned (.bool (clT c b)) ∧ Below w.heap.size w w' := by
  have hB := bal (bb w) (.cells #[.int .i64 b] 3)
  have k0 : (w.alloc (.cells #[.int .i64 b] 3)).cell? ⟨w.heap.size, 0, none⟩ = some (.int .i64 b) := cell_of_row _ _ _ _ _ _ (heap_alloc_new w _)
  have eg : Enter1 200 := enters_of Tryz.func200 (by kernel_rfl) rfl
  have hf : FnI LitS (w.alloc (.cells #[.int .i64 b] 3)) 200 #[.pointer (some ⟨w.heap.size, 0, none⟩)] (litT b) := by
    intro x W hx hbl
    exact holds1_any x hx b w.heap.size hb W (((bcell hbl).1 w.heap.size 0 (by simp)).trans k0)
  have hcall := Lib.hid (containsI_any eg c A cap _ (hx.grow hB) hl hc hf)
  rw [show c.any (litT b) = clT c b from rfl] at hcall
  clear hx k0 eg hf
  go_enter Tryz.func164, Tryz.ntmps164
  go_wp2_with fail
  refine hcall.out.mono ?_
  rintro e w1 ⟨rfl, hb1⟩
  have hB2 := btr hB hb1
  clear hcall hb1 hB
  go_wp2_with fail
  go_ret
  exact ⟨rfl, hB2⟩

/-- A model: all clauses are true. -/
def modT (xss : List (List Int)) (b : Nat) : Bool := xss.all fun c => clT c b
def ClS (c : List Int) : Prop := (∀ l ∈ c, LitS l) ∧ c.length ≤ 1000
set_option maxRecDepth 100000 in
theorem isModel1_any (c : List Int) (hc : ClS c) (A : Option Addr) (cap b g : Nat) (hb : b < 2 ^ 62) (w : World) (hx : IntsAt w A c) (k0 : w.cell? ⟨g, 0, none⟩ = some (.int .i64 b)) :
    Calls Tryz.prog 163 #[.slice A c.length cap, .pointer (some ⟨g, 0, none⟩)] w fun e w' => e = .returned (.bool (!(clT c b))) ∧ Below w.heap.size w w' := by
  have hcall := Lib.hid (holds_any c hc.1 (by have := hc.2; omega) A cap b hb w hx)
  clear hx
  go_enter Tryz.func163, Tryz.ntmps163
  go_wp2_with fail
  refine hcall.out.mono ?_
  rintro e w1 ⟨rfl, hb1⟩
  clear hcall
  go_wp2_with fail
  go_ret
  exact ⟨rfl, hb1⟩

set_option maxRecDepth 100000 in
theorem isModel_any (xss : List (List Int)) (hc : ∀ c ∈ xss, ClS c) (hl : xss.length ≤ 1000000) (A : Option Addr) (cap b : Nat) (hb : b < 2 ^ 62) (w : World) (hx : ClsAt w A xss) :
    Calls Tryz.prog 122 #[.slice A xss.length cap, .int .i64 b] w fun e w' => e = .returned (.bool (modT xss b)) ∧ Below w.heap.size w w' := by
  have hB := bal (bb w) (.cells #[.int .i64 b] 3)
  have k0 : (w.alloc (.cells #[.int .i64 b] 3)).cell? ⟨w.heap.size, 0, none⟩ = some (.int .i64 b) := cell_of_row _ _ _ _ _ _ (heap_alloc_new w _)
  have eg : Enter1 163 := enters_of Tryz.func163 (by kernel_rfl) rfl
  have hf : FnS ClS (w.alloc (.cells #[.int .i64 b] 3)) 163 #[.pointer (some ⟨w.heap.size, 0, none⟩)] (fun c => !(clT c b)) := by
    intro x B cp W hI hx hbl
    exact isModel1_any x hx B cp b w.heap.size hb W hI (((bcell hbl).1 w.heap.size 0 (by simp)).trans k0)
  have hcall := Lib.hid (containsS_any eg xss A cap _ (hx.grow hB) hl hc hf)
  have hR : Hid (modT xss b = !(xss.any fun c => !(clT c b))) := by
    unfold Hid modT
    rw [List.all_eq_not_any_not]
  generalize (xss.any fun c => !(clT c b)) = q at *
  clear hx k0 eg hf
  go_enter Tryz.func122, Tryz.ntmps122
  go_wp2_with fail
  refine hcall.out.mono ?_
  rintro e w1 ⟨rfl, hb1⟩
  have hB2 := btr hB hb1
  clear hcall hb1 hB
  go_wp2_with fail
  go_ret
  exact ⟨ret_bool hR.out.symm, hB2⟩
end Go.Proofs.YtahbepajeplcmaaGreatDoor

/- Contracts: all models in order, in the program. -/
namespace Go.Proofs.YtahbepajeplcmaaGreatDoor
open Go.RowKit

theorem pow12 {v : Nat} (hv : v ≤ 12) : wrap64 ((2 : Int) ^ v) = ((2 ^ v : Nat) : Int) ∧ 2 ^ v ≤ 4096 := by
  match v, hv with
  | 0, _ | 1, _ | 2, _ | 3, _ | 4, _ | 5, _ | 6, _ | 7, _ | 8, _ | 9, _ | 10, _ | 11, _ | 12, _ => exact ⟨by unfold wrap64; decide, by decide⟩

/- left out: the seat has no impl.models -/
end Go.Proofs.YtahbepajeplcmaaGreatDoor

/- Contracts: satisfiable Cnfs, counts of models, in the program. -/
namespace Go.Proofs.YtahbepajeplcmaaGreatDoor
open Go.RowKit

/-- From a row of rows to clauses that can be read. -/
theorem cls_row {wr : Bool} {w : World} {v : Value} {xss : List (List Int)} {F : List Nat} (h : (Ty.slice Ty.int).row wr w v xss F) : ∃ A c, v = .slice A xss.length c ∧ ClsAt w A xss := by
  obtain ⟨a, cap, rfl, _, _, h3⟩ := row_slices h
  refine ⟨a, cap, rfl, ⟨fun j hj => ?_⟩⟩
  rcases h3 with ⟨rfl, _⟩ | ⟨_, b, off, rfl, _, hc⟩
  · exact absurd hj (by simp)
  · obtain ⟨u, Fk, hu, hr, _⟩ := hc j hj
    obtain ⟨B, c, rfl, hI⟩ := ints_row hr
    exact ⟨b, off, B, c, rfl, hu.1, hI⟩
theorem lit_small {vars l : Int} (hv : 0 ≤ vars ∧ vars ≤ 12) (h : litB vars l = true) : l ≠ 0 ∧ -vars ≤ l ∧ l ≤ vars := by
  unfold litB inB at h
  rw [negV_small (by unfold I64; omega) (by omega)] at h
  simp only [Bool.and_eq_true, decide_eq_true_eq, bne_iff_ne] at h
  omega
theorem clause_parts {vars : Int} {c : List Int} (h : clauseB vars c = true) : (0 ≤ vars ∧ vars ≤ 12) ∧ (∀ l ∈ c, l ≠ 0 ∧ -vars ≤ l ∧ l ≤ vars) ∧ ∀ i (h : i + 1 < c.length), c[i].natAbs < c[i + 1].natAbs := by
  unfold clauseB inB cOkTo at h
  simp only [Bool.and_eq_true, decide_eq_true_eq, List.all_eq_true, List.mem_range] at h
  obtain ⟨hv, hc⟩ := h
  have hlit : ∀ i (hi : i < c.length), litB vars c[i] = true := fun i hi => by
    have := hc i hi
    unfold cOk at this
    rw [Bool.and_eq_true, List.getD_eq_getElem?_getD, List.getElem?_eq_getElem hi] at this
    exact this.1
  refine ⟨hv, fun l hl => ?_, fun i hi => ?_⟩
  · obtain ⟨i, hi, rfl⟩ := List.getElem_of_mem hl
    exact lit_small hv (hlit i hi)
  · have h1 := hc (i + 1) hi
    unfold cOk at h1
    rw [Bool.and_eq_true, Bool.or_eq_true] at h1
    have h2 := h1.2
    simp only [beq_iff_eq, Nat.add_eq_zero_iff, Nat.succ_ne_self, and_false, false_or, decide_eq_true_eq, Nat.add_sub_cancel] at h2
    rw [List.getD_eq_getElem?_getD, List.getD_eq_getElem?_getD, List.getElem?_eq_getElem hi, List.getElem?_eq_getElem (by omega)] at h2
    simp only [Option.getD_some] at h2
    have a1 := lit_small hv (hlit i (by omega))
    have a2 := lit_small hv (hlit (i + 1) hi)
    rw [absV_lit ⟨a1.1, by omega, by omega⟩, absV_lit ⟨a2.1, by omega, by omega⟩] at h2
    omega
theorem clause_rising {vars : Int} {c : List Int} (h : clauseB vars c = true) : c.Pairwise (fun a b => a.natAbs < b.natAbs) := by
  have h3 := (clause_parts h).2.2
  clear h
  induction c with
  | nil => exact .nil
  | cons a c ih =>
    have hc := ih (fun i hi => by have := h3 (i + 1) (by simp; omega); simpa using this)
    refine List.pairwise_cons.2 ⟨fun b hb => ?_, hc⟩
    cases c with
    | nil => simp at hb
    | cons d c =>
      have h0 := h3 0 (by simp)
      simp only [List.getElem_cons_zero, List.getElem_cons_succ] at h0
      rcases List.mem_cons.1 hb with rfl | hb
      · exact h0
      · exact Nat.lt_trans h0 ((List.pairwise_cons.1 hc).1 b hb)
theorem rising_len {m : Nat} : ∀ {c : List Int} {k : Nat}, c.Pairwise (fun a b => a.natAbs < b.natAbs) → (∀ l ∈ c, k ≤ l.natAbs ∧ l.natAbs < k + m) → c.length ≤ m
  | [], _, _, _ => by simp
  | a :: c, k, hp, hb => by
    have ha := hb a (by simp)
    have hp' := List.pairwise_cons.1 hp
    have := rising_len (m := m - (a.natAbs - k) - 1) (k := a.natAbs + 1) hp'.2 (fun l hl => by have := hp'.1 l hl; have := hb l (by simp [hl]); omega)
    simp only [List.length_cons]
    omega
theorem clause_s {vars : Int} {c : List Int} (h : clauseB vars c = true) : ClS c := by
  have hp := clause_parts h
  refine ⟨fun l hl => ?_, ?_⟩
  · have := hp.2.1 l hl
    exact ⟨this.1, by omega, by omega⟩
  · have := rising_len (m := 12) (k := 1) (clause_rising h) (fun l hl => by have := hp.2.1 l hl; omega)
    omega
theorem good_cnf {vars : Int} {xss : List (List Int)} (h : goodB vars xss = true) : (0 ≤ vars ∧ vars ≤ 12) ∧ xss.length ≤ 60 ∧ (∀ c ∈ xss, clauseB vars c = true) ∧ ∀ c ∈ xss, ClS c := by
  unfold goodB inB at h
  simp only [Bool.and_eq_true, decide_eq_true_eq, List.all_eq_true] at h
  exact ⟨h.1.1, h.1.2, h.2, fun c hc => clause_s (h.2 c hc)⟩

/- left out: the seat has no impl.satisfiable -/

/- left out: the seat has no impl.IsSatisfiable -/
end Go.Proofs.YtahbepajeplcmaaGreatDoor

/- Contract, a weak one: the text of a Cnf, in the reference. -/
namespace Go.Proofs.YtahbepajeplcmaaGreatDoor
open Go.RowKit

/-- Clauses that are short and small. -/
def SmallC (xss : List (List Int)) : Prop := ∀ c ∈ xss, Within 1000000 c ∧ c.length ≤ 13

set_option maxRecDepth 100000 in
set_option maxHeartbeats 4000000 in
theorem l2TextOfW_any (vars : Int) (hv : -1000000 ≤ vars ∧ vars ≤ 1000000) (xss : List (List Int)) (hc : SmallC xss) (hl : xss.length ≤ 1000) (A : Option Addr) (cap : Nat) (w : World) (hx : ClsAt w A xss) :
    Calls Tryz.prog 102 #[.agg #[.int .i64 vars, .slice A xss.length cap]] w fun e w' => ∃ t : ByteArray, e = .returned (.string t) ∧ Below w.heap.size w w' := by
  have hN := Lib.hid hx
  have hcc := Lib.hid hc
  have S0 := (Sp.start w).alloc_box #[.int .i64 vars, .slice A xss.length cap] 61
  have c0 := S0.cell (i := 0) rfl (o := 0) rfl
  replace S0 := Lib.hid S0
  clear hx hc
  go_enter Tryz.func102, Tryz.ntmps102
  go_wp2_with fail
  refine (l1Num_any vars _ (by omega) (by omega)).mono ?_
  rintro e w1 ⟨rfl, hb1⟩
  have hsz : (ms (Lib.itoa vars)).size ≤ 14 := by rw [ms_size]; exact itoa_short hv.1 hv.2
  generalize ms (Lib.itoa vars) = t0 at *
  have S1 := Lib.hid (S0.out.grow hb1)
  clear S0 hb1 c0
  go_wp2_with fail
  go_loopw [3, 4] (fun vs vi wr => ∃ (k : Nat) (t : ByteArray), k ≤ xss.length ∧ vi = .int .i64 k ∧ vs = .string t ∧ t.size ≤ 300 * k + 20 ∧ Hid (Sp w wr [Box w.heap.size 61 #[.int .i64 vars, .slice A xss.length cap]])) (fun _ vi _ => xss.length - (intOf vi).toNat)
  case atStart => exact ⟨0, t0, Nat.zero_le _, rfl, rfl, by omega, S1⟩
  case round =>
    obtain ⟨k, t, hk, rfl, rfl, hts, HS⟩ := hrel
    clear S1
    have c1 := HS.out.cell (i := 0) rfl (o := 1) rfl
    by_cases hlt : k < xss.length
    · obtain ⟨b, off, Bc, cc, rfl, m0, hI⟩ := (hN.out.grow HS.out.below).at_ k hlt
      have hcl := hcc.out _ (List.getElem_mem hlt)
      have htx := Lib.hid (l2TextW_any xss[k] hcl.1 (by omega) Bc cc wr hI)
      have hl13 := hcl.2
      generalize xss[k] = c at *
      obtain ⟨t1, ht1⟩ : ∃ t1, ms (bl t ++ bl ⟨#[59, 32]⟩) = t1 := ⟨_, rfl⟩
      have hs1 : t1.size ≤ 300 * k + 22 := by
        rw [← ht1, ms_size, List.length_append, bl_length, bl_length]
        have : (⟨#[59, 32]⟩ : ByteArray).size = 2 := rfl
        omega
      have a1 := fun w' => run_add (P := Tryz.prog) w' t ⟨#[59, 32]⟩ (by have : (⟨#[59, 32]⟩ : ByteArray).size = 2 := rfl; omega)
      rw [ht1] at a1
      clear ht1 hI
      go_wp2_with fail
      refine htx.out.mono ?_
      rintro e w2 ⟨u, hu, rfl, hb2⟩
      obtain ⟨t2, ht2⟩ : ∃ t2, ms (bl t1 ++ bl u) = t2 := ⟨_, rfl⟩
      have hs2 : t2.size ≤ 300 * (k + 1) + 20 := by
        rw [← ht2, ms_size, List.length_append, bl_length, bl_length]
        omega
      have a2 := fun w' => run_add (P := Tryz.prog) w' t1 u (by omega)
      rw [ht2] at a2
      have S2 := Lib.hid (HS.out.grow hb2)
      clear ht2 HS hb2 m0 a1 c1 htx
      go_wp2_with fail
      go_roundw
      case rel => exact ⟨k + 1, t2, by omega, by go_num, rfl, hs2, S2⟩
      case measure => simp [intOf]; omega
    · obtain rfl : k = xss.length := by omega
      have hB := HS.out.below
      go_wp2_with fail
      go_ret
      exact ⟨t, rfl, hB⟩
end Go.Proofs.YtahbepajeplcmaaGreatDoor

/- Memory in parts beside a cursor that turns: rows of rows. -/
namespace Go.Proofs.YtahbepajeplcmaaGreatDoor
open Go.RowKit

/-- An own row of numbers is a row with all that it reaches. -/
theorem Sp.own_to_row {w0 w : World} {ps : List Asn} {e : TypeId} {v : Value} {c : List Int} (h : Sp w0 w (Own e 1 v c.length (c.map (.int .i64)) :: ps)) (hok : ∀ x ∈ c, I64 x) : Sp w0 w (Row Ty.int v c :: ps) := by
  obtain ⟨F, ⟨rfl, ho⟩, _, hall⟩ := h.upd (i := 0) rfl
  obtain ⟨F, hr, hF, _⟩ := Ty.row_of_owns (T := Ty.int) ho rfl (by decide) (Ty.all_int hok)
  refine hall w (Row Ty.int v c) F (Chg.refl _ _) ⟨hr, ?_⟩ fun b hb => .inl ?_
  · rcases hF with rfl | ⟨g, _, _, _, rfl⟩ <;> simp
  · rcases hF with rfl | ⟨g, _, _, hg, rfl⟩
    · simp at hb
    · simp [hg] at hb ⊢; exact hb
section
variable {w0 w w' w1 : World} {g cl cc A i : Nat} {ca : Option Addr} {ps : List Asn} {e : TypeId}
theorem CS.own_to_row {v : Value} {c : List Int} (h : CS w0 g ca cl cc A w (Own e 1 v c.length (c.map (.int .i64)) :: ps)) (hok : ∀ x ∈ c, I64 x) : CS w0 g ca cl cc A w (Row Ty.int v c :: ps) := by
  obtain ⟨F, ⟨rfl, ho⟩, _, hall⟩ := h.upd (i := 0) rfl
  obtain ⟨F, hr, hF, _⟩ := Ty.row_of_owns (T := Ty.int) ho rfl (by decide) (Ty.all_int hok)
  refine hall w (Row Ty.int v c) F (Chg.refl _ _) ⟨hr, ?_⟩ fun b hb => .inl ?_
  · rcases hF with rfl | ⟨g, _, _, _, rfl⟩ <;> simp
  · rcases hF with rfl | ⟨g, _, _, hg, rfl⟩
    · simp at hb
    · simp [hg] at hb ⊢; exact hb
variable {α : Type} {T : Ty α} {v v' u : Value} {cs : List Value} {xss : List (List α)} {ys : List α}
theorem CS.rows (h : CS w0 g ca cl cc A w ps) (hi : ps[i]? = some (Rows T e v cs xss)) : w.ownsRow 0 e 1 v xss.length cs := by
  obtain ⟨F, ⟨G, _, _, _, h⟩, _⟩ := h.get hi
  exact h
theorem CS.rows_made (h : CS w0 g ca cl cc A w ps) (T : Ty α) (e : TypeId) : CS w0 g ca cl cc A (w.alloc (.cells #[] e)) (Rows T e (.slice (some ⟨w.heap.size, 0, none⟩) 0 0) [] [] :: ps) :=
  h.new (F := [w.heap.size]) (bal (bb _) _) ⟨[], rfl, by simp, ⟨rfl, rfl⟩, ⟨by simp, .inr ⟨w.heap.size, 0, #[], rfl, Nat.zero_le _, heap_alloc_new w _, Nat.le_refl _, by decide, by simp, by simp⟩⟩⟩ (by simp)
/-- A row goes into a row of rows. -/
theorem CS.rows_push (h : CS w0 g ca cl cc A w (Row T u ys :: Rows T e v cs xss :: ps)) (hb : Below w.heap.size w w1) (ho : w'.ownsRow 0 e 1 v' (xss.length + 1) (cs ++ [u])) (hg : w1.grownBy w' v.ownBlock)
    (hat : v'.ownBlock = v.ownBlock ∨ v'.ownBlock = some w1.heap.size) : CS w0 g ca cl cc A w' (Rows T e v' (cs ++ [u]) (xss ++ [ys]) :: ps) := by
  have hsz := h.chg.size
  obtain ⟨⟨A0, h0'⟩, hcur, h1, F, ⟨F1, F2, rfl, hd, ⟨hr, hn⟩, ⟨F3, F4, rfl, hd', ⟨G, rfl, hn', hall, hown⟩, h5⟩⟩, h3⟩ := h
  have hr1 := Ty.row_keep hr fun b hm => hb.block b (Ty.row_lt hr b hm)
  have hall1 := Ty.all_keep hall fun b hm => hb.block b (Ty.all_lt hall b hm)
  have h51 := sep_keep h5 fun b hm => hb.block b (sep_lt h5 b hm)
  have hkeep : ∀ b, b < w.heap.size → (∀ g, v.ownBlock = some g → b ≠ g) → w'.heap[b]? = w1.heap[b]? := fun b hlt hne => hg.block b (Nat.lt_of_lt_of_le hlt hb.size) (fun e => hne b e.symm rfl)
  have hr2 := Ty.row_keep hr1 fun b hm => hkeep b (Ty.row_lt hr b hm) fun g hg' e => hd b hm (by simp [hg', e])
  have hnG : ∀ b ∈ G, ∀ g, v.ownBlock = some g → b ≠ g := fun b hm g hg' e => by
    rw [List.nodup_append] at hn'
    exact hn'.2.2 g (by simp [hg']) b hm e.symm
  have hall2 := Ty.all_keep hall1 fun b hm => hkeep b (Ty.all_lt hall b hm) (hnG b hm)
  have h52 := sep_keep h51 fun b hm => hkeep b (sep_lt h5 b hm) fun g hg' e => hd' b (by simp [hg', e]) hm
  have hlv : ∀ b ∈ v'.ownBlock.toList, b ∈ v.ownBlock.toList ∨ b = w1.heap.size := fun b hm => by
    rcases hat with h | h
    · left; rwa [h] at hm
    · right; rw [h] at hm; simpa using hm
  have hs := hb.size
  have hold : ∀ k, k < w0.heap.size → w'.heap[k]? = w.heap[k]? := fun k hk => (hkeep k (by omega) fun g hg' e => by have := h3 g (by simp [hg']); omega).trans (hb.block k (by omega))
  have hchg : Chg [g] w0 w' := ⟨hg.os.trans (hb.os.trans h1.os), hg.tape.trans (hb.tape.trans h1.tape), hg.output.trans (hb.output.trans h1.output), by have := hg.size; omega, fun k hk hn => (hold k hk).trans (h1.block k hk hn)⟩
  refine ⟨⟨A0, h0'⟩, h0'.stay hcur hold, hchg, (v'.ownBlock.toList ++ (G ++ F1)) ++ F4, ⟨_, F4, rfl, ?_, ⟨G ++ F1, rfl, ?_, ?_, by simpa using ho⟩, h52⟩, ?_⟩
  · intro b hm hm4
    rcases List.mem_append.1 hm with hm | hm
    · rcases hlv b hm with h | h
      · exact hd' b (List.mem_append.2 (.inl h)) hm4
      · have := sep_lt h5 b hm4; omega
    · rcases List.mem_append.1 hm with hm | hm
      · exact hd' b (List.mem_append.2 (.inr hm)) hm4
      · exact hd b hm (List.mem_append.2 (.inr hm4))
  · refine List.nodup_append.2 ⟨by cases v'.ownBlock <;> simp, List.nodup_append.2 ⟨(List.nodup_append.1 hn').2.1, hn, fun x hx y hy e => hd y hy (by simp [← e, hx])⟩, fun x hx y hy e => ?_⟩
    subst e
    rcases hlv x hx with h | h
    · rcases List.mem_append.1 hy with hy | hy
      · exact (List.nodup_append.1 hn').2.2 x h x hy rfl
      · exact hd x hy (List.mem_append.2 (.inl (List.mem_append.2 (.inl h))))
    · rcases List.mem_append.1 hy with hy | hy
      · have := Ty.all_lt hall x hy; omega
      · have := Ty.row_lt hr x hy; omega
  · exact Ty.all_snoc hall2 ⟨u, rfl, hr2⟩
  · intro b hm
    rcases List.mem_append.1 hm with hm | hm
    · rcases List.mem_append.1 hm with hm | hm
      · rcases hlv b hm with h | h
        · exact h3 b (by simp at h ⊢; simp [h])
        · omega
      · rcases List.mem_append.1 hm with hm | hm
        · exact h3 b (by simp [hm])
        · exact h3 b (by simp [hm])
    · exact h3 b (by simp [hm])
/-- The finished row of rows. -/
theorem CS.rows_done (h : CS w0 g ca cl cc A w ps) (hi : ps[i]? = some (Rows T e v cs xss)) : ∃ F, (Ty.slice T).row true w v xss F ∧ F.Nodup ∧ (∀ b ∈ F, w0.heap.size ≤ b) := by
  obtain ⟨F, ⟨G, rfl, hn, hall, hown⟩, hF⟩ := h.get hi
  obtain ⟨F', hr, hF', _⟩ := Ty.row_of_owns hown rfl (by decide) hall
  rcases hF' with rfl | ⟨g, _, _, ho, rfl⟩
  · exact ⟨[], hr, by simp, by simp⟩
  · refine ⟨g :: G, hr, ?_, ?_⟩
    · rw [ho] at hn; simpa using hn
    · rw [ho] at hF; simpa using hF
end
end Go.Proofs.YtahbepajeplcmaaGreatDoor

/- Contracts, weak ones: a Cnf read from a text, in the reference. -/
namespace Go.Proofs.YtahbepajeplcmaaGreatDoor
open Go.RowKit

theorem sep_front : ∀ {qs ps : List Asn} {w : World} {F : List Nat}, sep (qs ++ ps) w F → ∃ F1, sep qs w F1 ∧ ∀ b ∈ F1, b ∈ F
  | [], ps, w, F, _ => ⟨[], rfl, by simp⟩
  | q :: qs, ps, w, F, h => by
    obtain ⟨F1, F2, rfl, h1, h2, h3⟩ := h
    obtain ⟨F3, h4, h5⟩ := sep_front h3
    refine ⟨F1 ++ F3, ⟨F1, F3, rfl, fun b hb hb2 => h1 b hb (h5 b hb2), h2, h4⟩, fun b hb => ?_⟩
    rcases List.mem_append.1 hb with h | h
    · exact List.mem_append.2 (.inl h)
    · exact List.mem_append.2 (.inr (h5 b h))
/-- The parts behind are let go. -/
theorem Sp.front {w0 w : World} {ps qs : List Asn} (h : Sp w0 w (qs ++ ps)) : Sp w0 w qs := by
  obtain ⟨h1, G, h2, h3⟩ := h
  obtain ⟨F, h4, h5⟩ := sep_front h2
  exact ⟨h1, F, h4, fun b hb => h3 b (h5 b hb)⟩
/-- A small Cnf of its own, and whether there is one. -/
def CnfW (w : World) (e : Ending) (w' : World) : Prop := ∃ (vars : Int) (B : Option Addr) (cap : Nat) (cs : List Value) (xss : List (List Int)) (q : Bool), e = .returned (.tuple #[.agg #[.int .i64 vars, .slice B xss.length cap], .bool q]) ∧ 0 ≤ vars ∧ vars ≤ 12 ∧ xss.length ≤ 60 ∧ SmallC xss ∧
  Sp w w' [Rows Ty.int 43 (.slice B xss.length cap) cs xss]
theorem cnfW_no {w w' : World} (hb : Below w.heap.size w w') : CnfW w (.returned (.tuple #[.agg #[.int .i64 0, .slice none 0 0], .bool false])) w' :=
  ⟨0, none, 0, [], [], false, rfl, by decide, by decide, by simp, (fun c hc => by simp at hc), (Sp.of_below hb).rows_nil _ _⟩

set_option maxRecDepth 100000 in
set_option maxHeartbeats 2000000 in
theorem parseCnfW_any (s : ByteArray) (w : World) (hs : s.size ≤ 100000) : Calls Tryz.prog 43 #[.string s] w (CnfW w) := by
  have S0 := Lib.hid ((Sp.start w).alloc_box #[.int .i64 0, .slice none 0 0] 61)
  obtain ⟨i0, hi, hz0, hz1, hz2⟩ := info_parts infoRow
  go_enter Tryz.func43, Tryz.ntmps43
  go_wp2_with fail
  refine (l1SplitW_any s 59 _ hs).mono ?_
  rintro e w1 ⟨ps, PB, pc, rfl, hps0, hps1, HL, T1⟩
  have S1 : Sp w w1 [Own 9 1 (.slice PB ps.length pc) ps.length (ps.map .string), Box w.heap.size 61 #[.int .i64 0, .slice none 0 0]] := S0.out.seq T1
  obtain ⟨pb, po, rfl, m0⟩ := strs_own (S1.own (i := 0) rfl) hps0
  rw [Nat.add_zero] at m0
  replace S1 := Lib.hid S1
  have hsz := HL _ (List.getElem_mem hps0)
  have hrd := Lib.hid (fun W => l1ReadW_any ps[0] W (by omega))
  replace HL := Lib.hid HL
  generalize ps[0] = p0 at *
  clear S0 T1
  go_wp2_with fail
  refine (hrd.out _).mono ?_
  rintro e w2 ⟨⟨vars, q0, hvl, hvu, rfl⟩, hb2⟩
  have S2 := Lib.hid (S1.out.grow hb2)
  clear S1 hrd hb2 m0 hsz
  go_upto_region 3 with fail
  go_cut [31] (fun v wx => ∃ q : Bool, v = .bool q ∧ Hid (q = false → inB vars 0 12 = true ∧ ps.length ≤ 61) ∧ Hid (Sp w wx [Own 9 1 (.slice (some ⟨pb, po, none⟩) ps.length pc) ps.length (ps.map .string), Box w.heap.size 61 #[.int .i64 0, .slice none 0 0]]))
  case first =>
    cases q0
    · go_wp2_with fail
      go_meet
      exact ⟨true, rfl, (fun e => by cases e), S2⟩
    · obtain ⟨q1, hq1⟩ : ∃ q, inB vars 0 12 = q := ⟨_, rfl⟩
      go_wp2_with fail
      refine (l2Vars_any _ _).mono ?_
      rw [hq1]
      rintro e w3 ⟨rfl, rfl⟩
      cases q1
      · go_wp2_with fail
        go_meet
        exact ⟨true, rfl, (fun e => by cases e), S2⟩
      · by_cases h61 : (61 : Int) < (ps.length : Int)
        · have d1 : decide ((61 : Int) < (ps.length : Int)) = true := decide_eq_true h61
          go_wp2_with fail
          go_meet
          exact ⟨true, rfl, (fun e => by cases e), S2⟩
        · have d1 : decide ((61 : Int) < (ps.length : Int)) = false := decide_eq_false h61
          go_wp2_with fail
          go_meet
          exact ⟨false, rfl, fun _ => ⟨hq1, by omega⟩, S2⟩
  case rest =>
  clear S2
  obtain ⟨q, rfl, hq, S2⟩ := hcut
  cases q
  case true =>
    have r0 := S2.out.cell (i := 1) rfl (o := 0) rfl
    have r1 := S2.out.cell (i := 1) rfl (o := 1) rfl
    have f0 := S2.out.frozen (i := 1) rfl 0
    have f1 := S2.out.frozen (i := 1) rfl 1
    have SF := (S2.out.store (i := 1) rfl 0 (.int .i64 0)).store (i := 1) rfl 1 (.slice none 0 0)
    have j0 := SF.cell (i := 1) rfl (o := 0) rfl
    have j1 := SF.cell (i := 1) rfl (o := 1) rfl
    have hB := Lib.hid SF.below
    clear SF
    go_wp2_with fail
    exact bodyPost_ret (v := .tuple #[.agg #[.int .i64 0, .slice none 0 0], .bool false]) (by simp [results, Tryz.results43, go_sem, j0, j1]) rfl (cnfW_no hB.out)
  case false =>
  obtain ⟨hv12, hp61⟩ := hq.out rfl
  have hvv : 0 ≤ vars ∧ vars ≤ 12 := by unfold inB at hv12; simpa using hv12
  clear hq
  have S3 := (S2.out.rows_made Ty.int 43).alloc_box #[.int .i64 vars, .slice (some ⟨wc.heap.size, 0, none⟩) 0 0] 61
  simp only [World.size_alloc] at S3
  obtain ⟨ob, hob⟩ : ∃ ob, wc.heap.size + 1 = ob := ⟨_, rfl⟩
  rw [hob] at S3
  have S4 : Hid (Sp w _ [Rows Ty.int 43 (.slice (some ⟨wc.heap.size, 0, none⟩) ([] : List (List Int)).length 0) [] ([] : List (List Int)), Box ob 61 #[.int .i64 vars, .slice (some ⟨wc.heap.size, 0, none⟩) ([] : List (List Int)).length 0], Own 9 1 (.slice (some ⟨pb, po, none⟩) ps.length pc) ps.length (ps.map .string), Box w.heap.size 61 #[.int .i64 0, .slice none 0 0]]) := S3.swap
  clear S2 S3
  go_wp2_with fail
  go_loopw [8, 9, 10] (fun vi _ _ wr => ∃ (xss : List (List Int)) (cs : List Value) (B : Option Addr) (cap : Nat) (i : Int), xss.length + 1 ≤ ps.length ∧ vi = .int .i64 i ∧ Hid (i = (xss.length : Int) + 1) ∧ Hid (SmallC xss) ∧ Hid (Sp w wr [Rows Ty.int 43 (.slice B xss.length cap) cs xss, Box ob 61 #[.int .i64 vars, .slice B xss.length cap], Own 9 1 (.slice (some ⟨pb, po, none⟩) ps.length pc) ps.length (ps.map .string), Box w.heap.size 61 #[.int .i64 0, .slice none 0 0]])) (fun vi _ _ _ => ps.length - (intOf vi).toNat)
  case atStart => exact ⟨[], [], _, _, 1, by simp; omega, rfl, rfl, (fun c hc => by simp at hc), S4⟩
  case round =>
    obtain ⟨xss, cs, B, cap, i, hk, rfl, hie, HC, HS⟩ := hrel
    clear S4
    have hie' := hie.out
    by_cases hlt : xss.length + 1 < ps.length
    · have hil : i < (ps.length : Int) := by omega
      have hi0 : 0 ≤ i := by omega
      have hiw : IntKind.i64.wrap (i + 1) = i + 1 := IntWalk.i64_in _ (by omega)
      obtain ⟨j, hj⟩ : ∃ j : Nat, i = (j : Int) := ⟨i.toNat, by omega⟩
      have hjl : j < ps.length := by omega
      obtain ⟨b', o', e', m0⟩ := strs_own (HS.out.own (i := 2) rfl) hjl
      cases e'
      have hsz := HL.out _ (List.getElem_mem hjl)
      subst hj
      have hjx : Hid (j = xss.length + 1) := by unfold Hid; omega
      clear hie hie' hi0
      generalize ps[j] = p at *
      go_upto_region 9 with fail
      go_cut [55] (fun v wx => ∃ q : Bool, v = .bool q ∧ Hid (q = false → 2 ≤ p.size) ∧ wx = wr)
      case first =>
        by_cases h2 : (p.size : Int) < 2
        · have d1 : decide ((p.size : Int) < 2) = true := decide_eq_true h2
          go_wp2_with fail
          go_meet
          exact ⟨true, rfl, (fun e => by cases e), rfl⟩
        · have d1 : decide ((p.size : Int) < 2) = false := decide_eq_false h2
          have h0 : 0 < p.size := by omega
          go_wp2_with fail
          go_meet
          exact ⟨_, rfl, fun _ => by omega, rfl⟩
      case rest =>
      obtain ⟨q, rfl, hq, hw3⟩ := hcut
      subst hw3
      cases q
      case true =>
        have r0 := HS.out.cell (i := 3) rfl (o := 0) rfl
        have r1 := HS.out.cell (i := 3) rfl (o := 1) rfl
        have f0 := HS.out.frozen (i := 3) rfl 0
        have f1 := HS.out.frozen (i := 3) rfl 1
        have SF := (HS.out.store (i := 3) rfl 0 (.int .i64 0)).store (i := 3) rfl 1 (.slice none 0 0)
        have j0 := SF.cell (i := 3) rfl (o := 0) rfl
        have j1 := SF.cell (i := 3) rfl (o := 1) rfl
        have hB := Lib.hid SF.below
        clear SF
        go_wp2_with fail
        exact bodyPost_ret (v := .tuple #[.agg #[.int .i64 0, .slice none 0 0], .bool false]) (by simp [results, Tryz.results43, go_sem, j0, j1]) rfl (cnfW_no hB.out)
      case false =>
      have h2 := hq.out rfl
      have h2' : (1 : Int) ≤ (p.size : Int) := by omega
      have hx := ext_le p 1 p.size
      have hpa := Lib.hid (fun W => l2ParseW_any vars (p.extract 1 p.size) W (by omega))
      clear hq hx
      go_wp2_with fail
      refine (hpa.out _).mono ?_
      rintro e w4 ⟨c, Bc, kc, qc, rfl, hcw, hcl, -, T4⟩
      have S4 := HS.out.seq T4
      have S5 := Lib.hid (S4.own_to_row (hcw.i64 (by decide)))
      clear HS S4 T4 hpa m0
      cases qc
      case false =>
        have r0 := S5.out.cell (i := 4) rfl (o := 0) rfl
        have r1 := S5.out.cell (i := 4) rfl (o := 1) rfl
        have f0 := S5.out.frozen (i := 4) rfl 0
        have f1 := S5.out.frozen (i := 4) rfl 1
        have SF := (S5.out.store (i := 4) rfl 0 (.int .i64 0)).store (i := 4) rfl 1 (.slice none 0 0)
        have j0 := SF.cell (i := 4) rfl (o := 0) rfl
        have j1 := SF.cell (i := 4) rfl (o := 1) rfl
        have hB := Lib.hid SF.below
        clear SF
        go_wp2_with fail
        exact bodyPost_ret (v := .tuple #[.agg #[.int .i64 0, .slice none 0 0], .bool false]) (by simp [results, Tryz.results43, go_sem, j0, j1]) rfl (cnfW_no hB.out)
      case true =>
      have l1 := S5.out.cell (i := 2) rfl (o := 1) rfl
      have hrows := Lib.hid ((S5.out.rows (i := 1) rfl).alloc (.cells #[.slice Bc c.length kc] 43))
      have hbl := (S5.out.box (i := 2) rfl).2.1
      have l1a := ((bcell (bal (bb w4) (.cells #[.slice Bc c.length kc] 43))).1 _ 1 hbl).trans l1
      have kB : (w4.alloc (.cells #[.slice Bc c.length kc] 43)).cell? ⟨w4.heap.size, 0, none⟩ = some (.slice Bc c.length kc) := cell_of_row _ _ _ _ _ _ (heap_alloc_new w4 _)
      go_wp2_with (at_builtin; refine wpList_append_src rfl _ _ rfl Tryz.underlying59 hi hz0 hz1 hz2 rfl (by decide) _ xss.length _ rfl hrows.out _ 1 1 [.slice Bc c.length kc] rfl (Src.one kB) (by simp [Value.oneCell']) ?c3 ?c4 ?_)
      case c3 => unfold maxLen; omega
      case c4 => omega
      intro vY wY hownY hgY hatY
      have S6 := S5.out.rows_push (bal (bb _) _) hownY hgY (by simpa using hatY)
      obtain ⟨aY, cY, rfl⟩ := own_slice hownY
      have b1 := S6.cell (i := 1) rfl (o := 1) rfl
      have q1 := S6.frozen (i := 1) rfl 1
      have hlen : xss.length + 1 = (xss ++ [c]).length := by simp
      have S7 : Hid (Sp w (wY.setCell ⟨ob, 1, none⟩ (.slice aY (xss.length + 1) cY)) [Rows Ty.int 43 (.slice aY (xss ++ [c]).length cY) (cs ++ [.slice Bc c.length kc]) (xss ++ [c]), Box ob 61 #[.int .i64 vars, .slice aY (xss ++ [c]).length cY], Own 9 1 (.slice (some ⟨pb, po, none⟩) ps.length pc) ps.length (ps.map .string), Box w.heap.size 61 #[.int .i64 0, .slice none 0 0]]) := by
        unfold Hid; rw [← hlen]
        have := S6.store (i := 1) rfl 1 (.slice aY (xss.length + 1) cY)
        rw [hlen] at this ⊢
        exact this
      have HC2 : Hid (SmallC (xss ++ [c])) := fun y hy => by
        rcases List.mem_append.1 hy with hy | hy
        · exact HC.out y hy
        · obtain rfl : y = c := by simpa using hy
          exact ⟨hcw, hcl⟩
      clear S5 S6 hrows hownY hgY hatY kB l1 l1a hbl
      replace hlen := Lib.hid hlen
      go_wp2_with fail
      go_roundw
      case rel => exact ⟨xss ++ [c], cs ++ [.slice Bc c.length kc], aY, cY, (j : Int) + 1, by have := hlen.out; omega, rfl, by unfold Hid; have := hlen.out; have := hjx.out; omega, HC2, S7⟩
      case measure => have := hjx.out; simp [intOf]; omega
    · have hil : ¬ i < (ps.length : Int) := by omega
      clear hie hie'
      obtain ⟨F, hr, hFn, hF0⟩ := HS.out.rows_done (i := 0) rfl
      obtain ⟨A', c', e', hI⟩ := cls_row hr
      cases e'
      have l0 := HS.out.cell (i := 1) rfl (o := 0) rfl
      have l1 := HS.out.cell (i := 1) rfl (o := 1) rfl
      have htx := Lib.hid (l2TextOfW_any vars (by omega) xss HC.out (by omega) B cap wr hI)
      clear hI hr hF0 hFn
      go_wp2_with fail
      refine htx.out.mono ?_
      rintro e w5 ⟨t, rfl, hb5⟩
      have S5 := Lib.hid (HS.out.grow hb5)
      clear HS htx hb5 l0 l1
      obtain ⟨q, hq⟩ : ∃ q, (bl t == bl s) = q := ⟨_, rfl⟩
      cases q
      · have r0 := S5.out.cell (i := 3) rfl (o := 0) rfl
        have r1 := S5.out.cell (i := 3) rfl (o := 1) rfl
        have f0 := S5.out.frozen (i := 3) rfl 0
        have f1 := S5.out.frozen (i := 3) rfl 1
        have SF := (S5.out.store (i := 3) rfl 0 (.int .i64 0)).store (i := 3) rfl 1 (.slice none 0 0)
        have j0 := SF.cell (i := 3) rfl (o := 0) rfl
        have j1 := SF.cell (i := 3) rfl (o := 1) rfl
        have hB := Lib.hid SF.below
        clear SF
        go_wp2_with fail
        exact bodyPost_ret (v := .tuple #[.agg #[.int .i64 0, .slice none 0 0], .bool false]) (by simp [results, Tryz.results43, go_sem, j0, j1]) rfl (cnfW_no hB.out)
      · have l0 := S5.out.cell (i := 1) rfl (o := 0) rfl
        have l1 := S5.out.cell (i := 1) rfl (o := 1) rfl
        have r0 := S5.out.cell (i := 3) rfl (o := 0) rfl
        have r1 := S5.out.cell (i := 3) rfl (o := 1) rfl
        have f0 := S5.out.frozen (i := 3) rfl 0
        have f1 := S5.out.frozen (i := 3) rfl 1
        have SF := (S5.out.store (i := 3) rfl 0 (.int .i64 vars)).store (i := 3) rfl 1 (.slice B xss.length cap)
        have j0 := SF.cell (i := 3) rfl (o := 0) rfl
        have j1 := SF.cell (i := 3) rfl (o := 1) rfl
        have hR := Lib.hid (Sp.front (qs := [_]) SF)
        clear SF S5
        go_wp2_with fail
        exact bodyPost_ret (v := .tuple #[.agg #[.int .i64 vars, .slice B xss.length cap], .bool true]) (by simp [results, Tryz.results43, go_sem, j0, j1]) rfl ⟨vars, B, cap, cs, xss, true, rfl, hvv.1, hvv.2, by omega, HC.out, hR.out⟩
end Go.Proofs.YtahbepajeplcmaaGreatDoor
