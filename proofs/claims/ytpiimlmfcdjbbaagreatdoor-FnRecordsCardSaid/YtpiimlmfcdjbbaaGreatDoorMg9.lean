/- Lemmas and contracts for a law, put together out of several texts: StrE BtA QTail BtD BpA SpA PbP RbA RbP RbL RbW PbR. -/
import Derived.Test.YtpiimlmfcdjbbaaGreatDoorMg8
import Derived.Lib.SmallJoins
import Derived.Test.YtpiimlmfcdjbbaaGreatDoorShelf
import Derived.Test.YtpiimlmfcdjbbaaGreatDoorMg1
import Derived.Shelf.Strings.Builder1
import Derived.Deep.Quiet
import Derived.StillTail
import Derived.Lib.QuietBelow
import Derived.BigQuiet
import Derived.Lib.SplitLaws
import Derived.Lib.Join
import Derived.Test.YtpiimlmfcdjbbaaGreatDoorMg3
import Derived.Test.YtpiimlmfcdjbbaaGreatDoorMg4
import Derived.Test.YtpiimlmfcdjbbaaGreatDoorMg2
import Derived.RangeFuncFrom
import Derived.RangeFuncNested
import Derived.RangeFuncBound
import Derived.RangeFuncCalls
import Derived.RangeFuncLeaves
import Derived.RangeFuncBox
import Derived.Shelf.Abstract
import Derived.Shelf.RegionOpen
import Derived.WalkKit
import Derived.OwnWalkIn
import Derived.TacticsInMore
import Derived.LoopNIn
import Derived.LoopIn
import Derived.Sort.CutIn
import Derived.OrdersIn
/- Contracts: checksums and sealed strings, in the program. -/
namespace Go.Proofs.YtpiimlmfcdjbbaaGreatDoor
open Go.RowKit

/-- What the calls of the library need of the world: its variable MaxLen holds a number, the table of powers of ten holds them. -/
structure Env (w : World) : Prop where
  maxlen : ∃ m : Int, w.cell? ⟨1, 0, none⟩ = some (.int .i64 m)
  pow : Lib.TabIs Tryz.prog w "internal/strconv.uint64pow10" .u64 Lib.pow10Tab
  low : 1 < w.heap.size ∧ 2 < w.heap.size
theorem globalPow : Tryz.prog.globalNamed "internal/strconv.uint64pow10" = some 2 := by kernel_rfl
theorem Env.below {B : Nat} {w w' : World} (h : Env w) (hb : Below B w w') (hB : w.heap.size ≤ B) : Env w' := by
  obtain ⟨⟨m, hm⟩, hp, hl⟩ := h
  exact ⟨⟨m, by rw [hb.cell (p := ⟨1, 0, none⟩) (Nat.lt_of_lt_of_le hl.1 hB)]; exact hm⟩, Joins.tab_stays globalPow hp hb hB, Nat.lt_of_lt_of_le hl.1 hb.size, Nat.lt_of_lt_of_le hl.2 hb.size⟩
theorem Env.grow {w w' : World} (h : Env w) (hb : Below w.heap.size w w') : Env w' := h.below hb (Nat.le_refl _)
theorem Env.alloc {w : World} (h : Env w) (o : Obj) : Env (w.alloc o) := h.grow (bal (bb _) _)

theorem itoa_env (n : Int) (h0 : -9223372036854775808 ≤ n) (h1 : n ≤ 9223372036854775807) (w : World) (hE : Env w) :
    Calls Tryz.prog 29 #[.int .i64 n] w fun e w' => e = .returned (.string (ms (Lib.itoa n))) ∧ Below w.heap.size w w' := by
  refine (Tryz.strconv_Itoa n h0 h1 w hE.pow).mono ?_
  rintro e w' ⟨rfl, k, os, rfl⟩
  exact ⟨rfl, below_regrown w (w.drewN k).drawn os⟩
/- left out: the seat has no strings.Contains -/

/- left out: the seat has no impl.Checksum -/

/- left out: the seat has no impl.AppendChecksum -/

theorem appB_len (l : List UInt8) : (appB l).1.length ≤ 4000 := by
  unfold appB
  split
  · rename_i h
    simp only [Bool.and_eq_true, decide_eq_true_eq] at h
    have := h.2; show (sealB l).length ≤ 4000; omega
  · simp
theorem cutP_len (b : Int) (l : List UInt8) : (cutP b l).1.length ≤ l.length := by
  rcases cut_cases b l with h | ⟨x, c, y, rfl, h1, h2⟩
  · rw [cutP_none h]; exact Nat.le_refl _
  · rw [cutP_some h1 h2]; simp

/- left out: the seat has no impl.VerifyChecksum -/
end Go.Proofs.YtpiimlmfcdjbbaaGreatDoor

/- Contracts: strings.Builder, as this program has it. -/
namespace Go.Proofs.YtpiimlmfcdjbbaaGreatDoor
open Go.RowKit

theorem sizeBld : (Tryz.prog.info? 62).map (·.size) = some 2 := by kernel_rfl
theorem liesBld : liesAt Tryz.prog Tryz.prog.depth 62 (2 / Tryz.prog.cellsOf 62) 0 62 1 = true := by kernel_rfl
theorem infoU8 : (Tryz.prog.info? 5).map (fun i => (i.zero, i.size, i.bytes)) = some (some (.int .u8 0), 1, 1) := by kernel_rfl
/-- A builder that holds bytes. -/
abbrev Bld (w0 : World) (b : Nat) (l : List UInt8) (w : World) : Prop := Lib.IsBuilder 62 5 w0.heap.size b (Lib.byteCells l) w

set_option maxHeartbeats 1000000 in
set_option maxRecDepth 100000 in
theorem copyCheck_used (b : Nat) (w : World) (h0 : w.cell? ⟨b, 0, none⟩ = some (.pointer (some ⟨b, 0, none⟩))) :
    Calls Tryz.prog 55 #[.pointer (some ⟨b, 0, none⟩)] w fun e w' => e = .returned (.tuple #[]) ∧ w' = w := by
  obtain ⟨j, hj, _⟩ := Option.map_eq_some_iff.1 sizeBld
  go_enter Tryz.func55, Tryz.ntmps55
  go_wp2
  rw [Lib.run_neq_ptr_same w _ Tryz.underlying60 hj]
  go_wp2
  exact bodyPost_end (v := .tuple #[]) (by simp [results, Tryz.results55, go_sem]) rfl ⟨rfl, rfl⟩

set_option maxHeartbeats 1000000 in
set_option maxRecDepth 100000 in
theorem copyCheck_fresh (b : Nat) (w : World) (h0 : w.cell? ⟨b, 0, none⟩ = some (.pointer none)) (hsh : w.shape? b = some (62, 2)) (hfz : w.frozen? ⟨b, 0, none⟩ = false) :
    Calls Tryz.prog 55 #[.pointer (some ⟨b, 0, none⟩)] w fun e w' => e = .returned (.tuple #[]) ∧ w' = w.setCell ⟨b, 0, none⟩ (.pointer (some ⟨b, 0, none⟩)) := by
  obtain ⟨j, hj, hjs⟩ := Option.map_eq_some_iff.1 sizeBld
  go_enter Tryz.func55, Tryz.ntmps55
  go_wp2
  rw [Lib.run_to_unsafe w ⟨b, 0, none⟩ Tryz.underlying60 Tryz.underlying95 hj (by rw [hjs]; decide) hsh (Nat.zero_lt_succ 1)]
  simp only [Result.andThen]
  rw [Oper.upon_value]
  go_wp2
  rw [run_callFunc_extern Tryz.func68 (by kernel_rfl) (by kernel_rfl) (by kernel_rfl) (e := Extern.AbiNoEscape.same) (by kernel_rfl)]
  rw [Lib.run_noEscape]
  simp only [Result.andThen]
  rw [Oper.upon_value]
  go_wp2
  rw [Lib.run_from_unsafe w ⟨b, 0, none⟩ Tryz.underlying95 Tryz.underlying60 hj hsh liesBld]
  simp only [Result.andThen]
  rw [Oper.upon_value]
  go_wp2
  exact bodyPost_end (v := .tuple #[]) (by simp [results, Tryz.results55, go_sem]) rfl ⟨rfl, rfl⟩

theorem copyCheck_any (B b : Nat) (bs : List Value) (w : World) (h : Lib.IsBuilder 62 5 B b bs w) :
    Calls Tryz.prog 55 #[.pointer (some ⟨b, 0, none⟩)] w fun e w' => e = .returned (.tuple #[]) ∧ (Lib.BuilderAt 62 5 B b (.pointer (some ⟨b, 0, none⟩)) bs w' ∧ Below B w w') := by
  rcases h with h | h
  · refine (copyCheck_fresh b w h.cell0 h.shape h.frozen0).mono ?_
    rintro e w' ⟨rfl, rfl⟩
    exact ⟨rfl, h.used _, (Below.refl B w).setCell (p := ⟨b, 0, none⟩) h.1 _⟩
  · refine (copyCheck_used b w h.cell0).mono ?_
    rintro e w' ⟨rfl, rfl⟩
    exact ⟨rfl, h, Below.refl B _⟩

set_option maxHeartbeats 2000000 in
set_option maxRecDepth 100000 in
theorem writeString_any (B b : Nat) (bs : List Value) (s : ByteArray) (w : World) (h : Lib.IsBuilder 62 5 B b bs w) (hlen : bs.length + s.size ≤ 140737488355328) (hBw : B ≤ w.heap.size) :
    Calls Tryz.prog 28 #[.pointer (some ⟨b, 0, none⟩), .string s] w fun e w' => e = .returned (.tuple #[.int .i64 s.size, .nilIface]) ∧ (Lib.BuilderAt 62 5 B b (.pointer (some ⟨b, 0, none⟩)) (bs ++ Lib.strCells s) w' ∧ Below B w w') := by
  obtain ⟨i0, hi, hz0, hz1, hz2⟩ := info_parts infoU8
  go_enter Tryz.func28, Tryz.ntmps28
  go_wp2_with (go_at_call 55; refine (copyCheck_any B b bs _ h).mono ?_)
  rintro e w1 ⟨rfl, h1, hb1⟩
  obtain ⟨hB, v, hbk, hown, hne⟩ := h1
  have c0 : w1.cell? ⟨b, 0, none⟩ = some (.pointer (some ⟨b, 0, none⟩)) := by rw [Lib.cell_of_heap hbk]; rfl
  have c1 : w1.cell? ⟨b, 1, none⟩ = some v := by rw [Lib.cell_of_heap hbk]; rfl
  go_wp2_with (at_builtin; refine Lib.wpList_append_own_string _ rfl _ _ 22 9 rfl B 5 i0 Tryz.underlying22 Tryz.underlying9 hi hz0 hz1 hz2 _ _ _ rfl hown s rfl ?c3 ?c4 ?c5 ?_)
  case c3 => unfold maxLen; omega
  case c4 => omega
  case c5 => have := hb1.size; omega
  intro v' w2 hown' hgrow _
  have hlt : b < w1.heap.size := by
    rcases Nat.lt_or_ge b w1.heap.size with h' | h'
    · exact h'
    · simp [Array.getElem?_eq_none h'] at hbk
  have hb2 : w2.heap[b]? = some (.cells #[.pointer (some ⟨b, 0, none⟩), v] 62 (0, 0)) := by
    rw [hgrow.block b hlt (fun e => hne e.symm)]
    exact hbk
  have d0 : w2.cell? ⟨b, 0, none⟩ = some (.pointer (some ⟨b, 0, none⟩)) := by rw [Lib.cell_of_heap hb2]; rfl
  have d1 : w2.cell? ⟨b, 1, none⟩ = some v := by rw [Lib.cell_of_heap hb2]; rfl
  have f1 : w2.frozen? ⟨b, 1, none⟩ = false := Lib.frozen_of_heap hb2 1
  obtain ⟨ao, n', cap, rfl⟩ : ∃ ao n' cap, v' = .slice ao n' cap := by
    rcases hown'.2 with ⟨hv, _⟩ | ⟨g, cap, cur, hv, _⟩
    · exact ⟨_, _, _, hv⟩
    · exact ⟨_, _, _, hv⟩
  go_wp2
  go_ret2
  refine ⟨rfl, ?_, ?_⟩
  · exact Lib.BuilderAt.put (T := 62) (e := 5) hB hb2 (bs' := bs ++ Lib.strCells s) (by simpa [Lib.strCells_length] using hown') (by decide)
  · exact (hb1.grown hgrow (by have := hb1.size; omega) (fun k hk => (hown.lt k hk).1)).setCell (p := ⟨b, 1, none⟩) hB _
end Go.Proofs.YtpiimlmfcdjbbaaGreatDoor

/- A region that draws its order: operations that are quiet in a class of worlds, then a tail in one forced order (a store, an assignment). One walk in the order of the text serves every order. No program in sight. -/
namespace Go.Proofs.YtpiimlmfcdjbbaaGreatDoor
open Go.RowKit

section
variable {P : Program} {ops : Array Oper} {md : Region.Mode} {C : World → Prop}

/-- Whatever comes up is one of the first n and quiet; behind them L. -/
def headQ (P : Program) (md : Region.Mode) (ops : Array Oper) (C : World → Prop) (n : Nat) (L : Array Bool → Act → Prop) : Nat → Array Bool → Act → Prop
  | 0, s, a => L s a
  | f + 1, s, a => Region.ready md ops s ≠ [] ∧ ∀ i ∈ Region.ready md ops s, i < n ∧ qOp P ops C i (headQ P md ops C n L f (s.setIfInBounds i true)) a

theorem any_of_headQ {n g : Nat} {L : Array Bool → Act → Prop} {Q : Exit → Act → World → Prop} (hL : ∀ s a w, C w → L s a → wpAny P md ops Q g s a w) :
    ∀ (f : Nat) (s : Array Bool) (a : Act) (w : World), C w → headQ P md ops C n L f s a → wpAny P md ops Q (f + g) s a w
  | 0, s, a, w, hw, h => by rw [Nat.zero_add]; exact hL s a w hw h
  | f + 1, s, a, w, hw, h => by
    rw [show f + 1 + g = (f + g) + 1 by omega]
    exact ⟨fun e => absurd e h.1, fun i hi => wpOp_of_qOp hw (fun a' w' hw' h' => any_of_headQ hL f _ a' w' hw' h') (h.2 i hi).2⟩

theorem waits_not_listed {s : Array Bool} {i : Nat} {oj : Oper} (hall : ∀ e ∈ oj.after, Region.binds md e = true → s.getD e.on false = true) (hi : s.getD i false = false) : ∀ e ∈ oj.after, Region.binds md e = true → e.on ≠ i := by
  rintro e he hb rfl
  have := hall e he hb
  rw [hi] at this; cases this

/-- An operation that is ready, quiet, and apart from all that need not wait for it may be taken first. -/
theorem headQ_first {n i : Nat} {oi : Oper} {v : Value} {L : Array Bool → Act → Prop} (hi : ops[i]? = some oi) (hsel : ∀ (j : Nat) (o : Oper) cs b, ops[j]? = some o → o.op ≠ .select cs b)
    (hs : Region.sinkB md ops n = true) (hc : Region.chainB md ops n = true) (hn : n < ops.size) (hin : i < n) (hL : ∀ s a, L s a → ∀ j ∈ Region.ready md ops s, n ≤ j) (f : Nat) :
    ∀ (s : Array Bool) (a : Act), HeadInv md ops n s →
      (∀ j oj, ops[j]? = some oj → j ≠ i → s.getD j true = false → (∀ e ∈ oj.after, Region.binds md e = true → e.on ≠ i) → oi.apart ops oj = true) →
      i ∈ Region.ready md ops s → YieldsIn P ops C oi v a → headQ P md ops C n L f (s.setIfInBounds i true) (a.put oi.dst v) → headQ P md ops C n L (f + 1) s a := by
  induction f with
  | zero =>
    intro s a inv _ hr hy H
    refine ⟨List.ne_nil_of_mem hr, fun j hj => ?_⟩
    have hjn : j < n := Nat.lt_of_not_le fun h => tail_waits hs hc hn inv _ i rfl hin (mem_ready.1 hr).1 j h hj
    refine ⟨hjn, ?_⟩
    by_cases e : j = i
    · subst e; exact hy.qOp hi H
    · exact absurd (hL _ _ H j (ready_mono hj e)) (by omega)
  | succ f ih =>
    intro s a inv hfree hr hy H
    refine ⟨List.ne_nil_of_mem hr, fun j hj => ?_⟩
    have hjn : j < n := Nat.lt_of_not_le fun h => tail_waits hs hc hn inv _ i rfl hin (mem_ready.1 hr).1 j h hj
    refine ⟨hjn, ?_⟩
    by_cases e : j = i
    · subst e; exact hy.qOp hi H
    · obtain ⟨hjs, oj, hoj, hall⟩ := mem_ready.1 hj
      have hno := waits_not_listed hall (getD_both (mem_ready.1 hr).1)
      have h1 := qOp_put hoj (hfree j oj hoj e hjs hno) (fun cs b => hsel i oi cs b hi) (fun cs b => hsel j oj cs b hoj) hy (H.2 j (ready_mono hj e)).2
      refine qOp_mono (fun a' h2 => ih (s.setIfInBounds j true) a' (inv.set hj hjn) (fun k ok hk hki hun hw => hfree k ok hk hki ?_ hw) (ready_mono hr (Ne.symm e)) h2.1 ?_) h1
      · by_cases hjk : j = k
        · subst hjk; exact hjs
        · rw [getD_set_ne true hjk] at hun; exact hun
      · rw [Array.setIfInBounds_comm _ _ e]; exact h2.2

theorem headQ_lex {n g : Nat} {K : Act → Prop} (hsel : Region.noSelect ops = true) (hs : Region.sinkB md ops n = true) (hc : Region.chainB md ops n = true) (hn : n < ops.size) :
    ∀ (l : List Oper) (k : Nat) (s : Array Bool) (a : Act), (∀ j, j < l.length → l[j]? = ops[k + j]?) → k + l.length = n → HeadInv md ops n s →
    Region.lexHead md ops g l.length k s = true → wpQuiet P ops C K l a → headQ P md ops C n (fun s' a' => Region.seqB md ops g n s' = true ∧ K a') l.length s a
  | [], k, s, a, _, hk, _, hB, h => by
    obtain rfl : k = n := by simpa using hk
    exact ⟨by simpa [Region.lexHead] using hB, h⟩
  | o :: l, k, s, a, hl, hk, inv, hB, h => by
    have ho : ops[k]? = some o := by simpa using (hl 0 (by simp)).symm
    simp only [List.length_cons, Region.lexHead, Bool.and_eq_true] at hB hk
    obtain ⟨⟨hr, hf⟩, hB'⟩ := hB
    have hr' : k ∈ Region.ready md ops s := by simpa using hr
    have hq : qOp P ops C k (wpQuiet P ops C K l) a := by unfold qOp; simp only [ho]; exact h
    obtain ⟨v, hy, hK⟩ := yieldsIn_of_qOp ho hq
    refine headQ_first ho (Region.noSelect_spec hsel) hs hc hn (by omega) (fun s' a' hL => seqB_ready hL.1) l.length s a inv (Region.free_spec ho hf) hr' hy ?_
    refine headQ_lex hsel hs hc hn l (k + 1) _ _ (fun j hj => ?_) (by omega) (inv.set hr' (by omega)) hB' hK
    have := hl (j + 1) (by simp; omega)
    simpa [Nat.add_assoc, Nat.add_comm 1 j] using this
end

theorem wp_region_quiet_tail {P : Program} {C : World → Prop} {id : Nat} {Q : Exit → Act → World → Prop} {a : Act} {w : World} {l : List Oper} (n : Nat) (hm : P.follows .mixedOrders = true) (hB : Region.lexTailB .any l.toArray n = true) (hC : C { w with drawn := w.drawn + 1 })
    (h : wpQuiet P l.toArray C (fun a' => ∀ w', C w' → wpList P l.toArray Q (l.drop n) a' w') (l.take n) a) : (Code.region id l.toArray true).wp P Q a w := by
  simp only [Region.lexTailB, Bool.and_eq_true, decide_eq_true_eq] at hB
  obtain ⟨⟨⟨⟨hsel, hn⟩, hs⟩, hc⟩, hlex⟩ := hB
  have hn' : n < l.length := by simpa using hn
  have htl : (l.take n).length = n := by simp; omega
  have hdl : (l.drop n).length = l.toArray.size - n := by simp
  have inv0 : HeadInv .any l.toArray n (Array.replicate l.toArray.size false) :=
    ⟨by simp, fun j oj _ hl => (by rw [getD_replicate_false] at hl; cases hl), fun t _ ht => getD_in (by simpa using ht) (getD_replicate_false _ _)⟩
  have H := headQ_lex (P := P) (C := C) (md := .any) (g := l.toArray.size - n) hsel hs hc hn (l.take n) 0 _ a (fun j hj => by
    rw [htl] at hj
    simp [hj]) (by rw [htl]; omega) inv0 (by rw [htl]; exact hlex) h
  refine wp_region_any hm ?_
  have H2 := any_of_headQ (Q := Q) (g := l.toArray.size - n) (fun s a' w' hw' hL => by
    have := wpAny_of_seq (md := .any) (Q' := Q) (l.drop n) n s a' w' (fun j => by simp [List.getElem?_drop]) (by rw [hdl]; exact hL.1) (hL.2 w' hw')
    rwa [hdl] at this) _ _ _ _ hC H
  rw [htl, show n + (l.toArray.size - n) = l.toArray.size by omega] at H2
  exact H2

/-- At the class 'nothing of what was there has turned'. -/
theorem wp_region_quiet_below_tail {P : Program} {id : Nat} {Q : Exit → Act → World → Prop} {a : Act} {w : World} {l : List Oper} (n : Nat) (hm : P.follows .mixedOrders = true) (hB : Region.lexTailB .any l.toArray n = true)
    (h : wpQuiet P l.toArray (fun w' => ∃ p : Regrown, w' = Go.Sort.grow (redrawn w p.d) p.os) (fun a' => ∀ w', (∃ p : Regrown, w' = Go.Sort.grow (redrawn w p.d) p.os) → wpList P l.toArray Q (l.drop n) a' w') (l.take n) a) : (Code.region id l.toArray true).wp P Q a w :=
  wp_region_quiet_tail (C := fun w' => ∃ p : Regrown, w' = Go.Sort.grow (redrawn w p.d) p.os) n hm hB ⟨⟨w.drawn + 1, #[]⟩, by rw [Go.Sort.grow_empty]; rfl⟩ h
end Go.Proofs.YtpiimlmfcdjbbaaGreatDoor

/- Contracts: the text of a book, in the program. -/
namespace Go.Proofs.YtpiimlmfcdjbbaaGreatDoor
open Go.RowKit

/-- What the library's calls need of the world: the table of powers of ten. -/
structure EnvI (w : World) : Prop where
  pow : Lib.TabIs Tryz.prog w "internal/strconv.uint64pow10" .u64 Lib.pow10Tab
  low : 2 < w.heap.size
theorem globalPowI : Tryz.prog.globalNamed "internal/strconv.uint64pow10" = some 2 := by kernel_rfl
theorem EnvI.grow {w w' : World} (h : EnvI w) (hb : Below w.heap.size w w') : EnvI w' :=
  ⟨Joins.tab_stays globalPowI h.pow hb (Nat.le_refl _), Nat.lt_of_lt_of_le h.low hb.size⟩
theorem EnvI.below {B : Nat} {w w' : World} (h : EnvI w) (hb : Below B w w') (hB : w.heap.size ≤ B) : EnvI w' :=
  ⟨Joins.tab_stays globalPowI h.pow hb hB, Nat.lt_of_lt_of_le h.low hb.size⟩
theorem itoa_at (n : Int) (h : 0 ≤ n ∧ n ≤ 9999) (w : World) (hE : EnvI w) :
    Calls Tryz.prog 29 #[.int .i64 n] w fun e w' => e = .returned (.string (ms (Lib.itoa n))) ∧ Below w.heap.size w w' := by
  refine (Tryz.strconv_Itoa n (by omega) (by omega) w hE.pow).mono ?_
  rintro e w' ⟨rfl, k, os, rfl⟩
  exact ⟨rfl, below_regrown w (w.drewN k).drawn os⟩
/-- A builder stays where only new blocks come in. -/
theorem bld_grow {B b : Nat} {bs : List Value} {w w' : World} (h : Lib.IsBuilder 62 5 B b bs w) (hb : Below w.heap.size w w') : Lib.IsBuilder 62 5 B b bs w' := by
  have key : ∀ p, Lib.BuilderAt 62 5 B b p bs w → Lib.BuilderAt 62 5 B b p bs w' := by
    intro p h
    have hlt := h.lt
    obtain ⟨hB, v, hbk, hown, hne⟩ := h
    exact ⟨hB, v, (hb.block b hlt).trans hbk, owns_keep hown (fun g hg => hb.block g (hown.lt g hg).2), hne⟩
  rcases h with h | h
  · exact .inl (key _ h)
  · exact .inr (key _ h)
theorem bytes_append (a : List UInt8) (s : ByteArray) : Lib.byteCells a ++ Lib.strCells s = Lib.byteCells (a ++ bl s) := by
  simp [Lib.byteCells, Lib.strCells, bl]

set_option maxRecDepth 100000 in
set_option maxHeartbeats 8000000 in
theorem implBookText_any (v : Value) (xs : List Rec) (F : List Nat) (w : World) (hE : EnvI w) (hx : rcTy.row false w v xs F) :
    Calls Tryz.prog 11 #[v] w fun e w' => e = .returned (.tuple #[.string (ms (if bookB xs then textB xs else [])), .bool (bookB xs)]) ∧ Below w.heap.size w w' := by
  have hxlt := Ty.row_lt hx
  obtain ⟨a, c, hv, hx1, hx2, hg, hx3⟩ := row_rc hx
  cases hb : bookB xs
  · subst hv
    go_enter Tryz.func11, Tryz.ntmps11
    go_wp2_with (go_at_call 8; refine (bookIs_at hx hb).mono ?_; rintro e w1 ⟨rfl, hb1⟩)
    go_ret2
    exact ⟨rfl, hb1⟩
  subst hv
  go_enter Tryz.func11, Tryz.ntmps11
  go_wp2_with (go_at_call 8; refine (bookIs_at hx hb).mono ?_; rintro e w1 ⟨rfl, hb1⟩)
  clear hx
  have hst := Lib.hid (show Lib.IsBuilder 62 5 w1.heap.size w1.heap.size (Lib.byteCells (textB (xs.take 0))) (w1.alloc (.cells #[.pointer none, .slice none 0 0] 62)) from Lib.fresh_isBuilder _ _ w1)
  have hB1 := Lib.hid (show Below w1.heap.size w1 (w1.alloc (.cells #[.pointer none, .slice none 0 0] 62)) from bal (bb _) _)
  have hEH := Lib.hid (hE.grow hb1)
  go_loopw [12] (fun i wr => ∃ k : Nat, k ≤ xs.length ∧ i = .int .i64 k ∧ Hid (Below w1.heap.size w1 wr) ∧ Hid (Lib.IsBuilder 62 5 w1.heap.size w1.heap.size (Lib.byteCells (textB (xs.take k))) wr)) (fun i _ => xs.length - (intOf i).toNat)
  case atStart => exact ⟨0, Nat.zero_le _, rfl, hB1, hst⟩
  case round =>
    obtain ⟨k, hk, rfl, HB, HI⟩ := hrel
    clear hst hB1
    by_cases hlt : k < xs.length
    · rcases hx3 with ⟨rfl, rfl⟩ | ⟨hxn, b, off, rfl, rfl, hxc⟩
      · exact absurd hlt (by simp)
      obtain ⟨p0, p1, p2, p3⟩ := hxc k hlt
      have hblt : b < w.heap.size := p0.lt
      have hp : wr.heap[b]? = w.heap[b]? := (HB.out.block b (Nat.lt_of_lt_of_le hblt hb1.size)).trans (hb1.block b hblt)
      have k0 := (p0.keep hp).1
      have k1 := (p1.keep hp).1
      have k2 := (p2.keep hp).1
      have k3 := (p3.keep hp).1
      have hrk := book_all hb xs[k] (List.getElem_mem hlt)
      have hrl := recT_len hrk
      obtain ⟨⟨n0, n1⟩, _, ⟨s0, s1⟩, hz, he⟩ := rec_parts hrk
      have hl := take_len hb (Nat.le_of_lt hlt)
      have ht := Lib.hid (textB_succ hlt)
      have hlet := Lib.hid (letter s0 s1)
      have l1 := itoa_four (n := xs[k].size) (by omega) (by omega)
      have l2 := itoa_four he.1 he.2
      have S1 := (Sp.start wr).alloc_box #[.string (ms xs[k].name), .int .i64 xs[k].sys, .int .i64 xs[k].size, .int .i64 xs[k].extra] 30
      have b0 := cell_regrown (S1.cell (i := 0) rfl (o := 0) rfl)
      have b1 := cell_regrown (S1.cell (i := 0) rfl (o := 1) rfl)
      have b2 := cell_regrown (S1.cell (i := 0) rfl (o := 2) rfl)
      have b3 := cell_regrown (S1.cell (i := 0) rfl (o := 3) rfl)
      have hS := Lib.hid S1.below
      have hE2 := Lib.hid ((hEH.out.below HB.out (Nat.le_refl _)).grow S1.below)
      have hI2 := Lib.hid (bld_grow HI.out S1.below)
      clear S1 p0 p1 p2 p3 hp hrk hb hxc hg hE HI
      obtain ⟨T, hT⟩ : ∃ T, textB (xs.take k) = T := ⟨_, rfl⟩
      obtain ⟨T2, hT2⟩ : ∃ T, textB (xs.take (k + 1)) = T := ⟨_, rfl⟩
      rw [hT] at hl hI2
      rw [hT, hT2] at ht
      clear hT
      generalize xs[k] = r at *
      obtain ⟨nm, sy, sz, ex⟩ := r
      dsimp only at *
      go_wp2_with fail
      refine wp_region_quiet_below_tail 21 (by kernel_rfl) (by kernel_rfl) ?_
      simp only [List.take_succ_cons, List.take_zero, List.drop_succ_cons, List.drop_zero]
      repeat (any_goals (first | go_big_quiet_step ((go_at_call 29; first | (with_reducible exact Calls.regrown_of (itoa_at sz (And.intro (by omega) (by omega)) _ (hE2.out.grow (below_regrown _ _ _)))) | (with_reducible exact Calls.regrown_of (itoa_at ex he _ (hE2.out.grow (below_regrown _ _ _))))))))
      refine wpQuiet_nil ?_
      rintro w4 ⟨pp, hw4⟩
      have hb4 := Lib.hid (hw4 ▸ below_regrown _ _ _ : Below (wr.alloc (.cells #[.string (ms nm), .int .i64 sy, .int .i64 sz, .int .i64 ex] 30)).heap.size (wr.alloc (.cells #[.string (ms nm), .int .i64 sy, .int .i64 sz, .int .i64 ex] 30)) w4)
      clear hw4 b0 b1 b2 b3
      go_wp2_with fail
      have hsz : Hid (ms nm ++ { data := #[32] } ++ ByteArray.extract { data := #[114, 116, 108, 112] } (sy.toNat - 1) sy.toNat ++ { data := #[32] } ++ ms (Lib.itoa sz) ++ { data := #[32] } ++ ms (Lib.itoa ex) ++ { data := #[10] } = ms (recT ⟨nm, sy, sz, ex⟩)) := by
        unfold Hid
        apply bl_inj
        have e1 := hlet.out
        rw [show sy.toNat - 1 = (sy - 1).toNat by omega, e1]
        simp [bl_append, bl_ms, bl_lit, recT]
      rw [hsz.out]
      clear hsz hlet
      obtain ⟨L, hL⟩ : ∃ L, recT ⟨nm, sy, sz, ex⟩ = L := ⟨_, rfl⟩
      rw [hL] at hrl ht ⊢
      clear hL
      have hI4 := bld_grow hI2.out hb4.out
      refine (writeString_any w1.heap.size w1.heap.size _ (ms L) w4 hI4 (by rw [Lib.byteCells_length, ms_size]; omega) (by have h1 := HB.out.size; have h2 := hb4.out.size; simp at h2; omega)).mono ?_
      rintro e w5 ⟨rfl, hI5, hb5⟩
      rw [bytes_append, bl_ms, ← ht.out, ← hT2] at hI5
      have hB5 : Hid (Below w1.heap.size w1 w5) := (HB.out.trans (hS.out.mono HB.out.size)).trans ((Below.mono hb4.out (by have h1 := HB.out.size; simp; omega)).trans hb5)
      have hI6 := Lib.hid (Or.inr hI5 : Lib.IsBuilder 62 5 w1.heap.size w1.heap.size (Lib.byteCells (textB (xs.take (k + 1)))) w5)
      clear hI5 hI4 hI2 hb4 hb5 hS HB ht hT2
      go_wp2_with fail
      go_roundw
      case rel => exact ⟨k + 1, by omega, by go_num, hB5, hI6⟩
      case measure => simp [intOf]; omega
    · obtain rfl : k = xs.length := by omega
      rw [List.take_length] at HI
      clear hxlt hx3 hg hE hEH
      go_wp2_with fail
      refine (Tryz.Builder_String_any w1.heap.size w1.heap.size (textB xs) wr HI.out HB.out.size).mono ?_
      rintro e w2 ⟨rfl, hb2⟩
      go_wp2_with fail
      go_ret2
      exact ⟨rfl, (hb1.trans (HB.out.mono hb1.size)).trans (hb2.mono hb1.size)⟩
end Go.Proofs.YtpiimlmfcdjbbaaGreatDoor

/- Contracts: numbers read, in texts of up to two million bytes. Printed by gen_bpa.py. -/
namespace Go.Proofs.YtpiimlmfcdjbbaaGreatDoor
open Go.RowKit

/-- What the reading of books needs of the world: the table of powers of ten, the library's variables. -/
structure PEnv (w : World) : Prop where
  pw : EnvI w
  maxlen : ∃ m : Int, w.cell? ⟨1, 0, none⟩ = some (.int .i64 m)
  e1 : ∃ (tp : TypeId) (p : Value), w.cell? ⟨5, 0, none⟩ = some (.iface tp p)
  e2 : ∃ (tp : TypeId) (p : Value), w.cell? ⟨6, 0, none⟩ = some (.iface tp p)
theorem PEnv.grow {w w' : World} (h : PEnv w) (hb : Below w.heap.size w w') : PEnv w' := by
  obtain ⟨h0, ⟨m, hm⟩, ⟨t1, p1, h1⟩, ⟨t2, p2, h2⟩⟩ := h
  exact ⟨h0.grow hb, ⟨m, (hb.cell (World.block_lt_of_cell? _ _ hm)).trans hm⟩, ⟨t1, p1, (hb.cell (World.block_lt_of_cell? _ _ h1)).trans h1⟩, ⟨t2, p2, (hb.cell (World.block_lt_of_cell? _ _ h2)).trans h2⟩⟩
theorem itoa_envP (n : Int) (h0 : -9223372036854775808 ≤ n) (h1 : n ≤ 9223372036854775807) (w : World) (hE : PEnv w) :
    Calls Tryz.prog 29 #[.int .i64 n] w fun e w' => e = .returned (.string (ms (Lib.itoa n))) ∧ Below w.heap.size w w' := by
  refine (Tryz.strconv_Itoa n h0 h1 w hE.pw.pow).mono ?_
  rintro e w' ⟨rfl, k, os, rfl⟩
  exact ⟨rfl, below_regrown w (w.drewN k).drawn os⟩
theorem bytes_belowP (w : World) (e : TypeId) (t : ByteArray) : Below w.heap.size w (Lib.bytesWorld w e t) :=
  ⟨rfl, rfl, rfl, by rw [Lib.bytesWorld_size]; omega, fun k hk => Lib.bytesWorld_at_old w e t k hk⟩
theorem atoi_yesP {s : ByteArray} {v : Int} (hs : s.size ≤ 2000000) (h : Lib.atoiAll (bl s) = .ok v) (w : World) :
    Calls Tryz.prog 74 #[.string s] w fun e w' => e = .returned (.tuple #[.int .i64 v, .nilIface]) ∧ Below w.heap.size w w' := by
  refine (Tryz.strconv_Atoi_ok s (by omega) v h w).mono ?_
  rintro e w' ⟨rfl, rfl | ⟨t, rfl⟩⟩
  · exact ⟨rfl, bb _⟩
  · exact ⟨rfl, bytes_belowP w _ t⟩
/-- A number and an error that is not nil. -/
def AtoiNoP (w : World) (e : Ending) (w' : World) : Prop :=
  ∃ (x : Int) (N : Nat), -9223372036854775808 ≤ x ∧ x ≤ 9223372036854775807 ∧ e = .returned (.tuple #[.int .i64 x, .iface 121 (.pointer (some ⟨N, 0, none⟩))]) ∧ Below w.heap.size w w'
theorem atoi_noP {s : ByteArray} (hs : s.size ≤ 2000000) (h : ∀ v, Lib.atoiAll (bl s) ≠ .ok v) (w : World) (hE : PEnv w) : Calls Tryz.prog 74 #[.string s] w (AtoiNoP w) := by
  obtain ⟨t1, p1, h1⟩ := hE.e1
  obtain ⟨t2, p2, h2⟩ := hE.e2
  rcases hq : Lib.atoiAll (bl s) with v | _ | _
  · exact absurd hq (h v)
  · refine (Any.strconv_Atoi_syntax Tryz.laysC172 s (by omega) hq _ w h1 (.inr ⟨t1, p1, rfl⟩)).mono ?_
    rintro e w' ⟨N, rfl, _, _, hb⟩
    exact ⟨0, N, by decide, by decide, rfl, hb⟩
  · refine (Tryz.strconv_Atoi_range s (by omega) hq _ w h2 (.inr ⟨t2, p2, rfl⟩)).mono ?_
    rintro e w' ⟨N, rfl, _, _, hb⟩
    have hx := Lib.atoiSat_bounds (bl s)
    exact ⟨_, N, hx.1, hx.2, rfl, hb⟩

/-- What FormatInt gives. -/
def fmtBP (n : Int) : List UInt8 × Bool := if inB n (-999999) 999999 then (Lib.itoa n, true) else ([], false)
set_option maxHeartbeats 400000 in
theorem implFormat_anyP (n : Int) (w : World) (hE : PEnv w) (h0 : -9223372036854775808 ≤ n) (h1 : n ≤ 9223372036854775807) :
    Calls Tryz.prog 75 #[.int .i64 n] w fun e w' => e = .returned (.tuple #[.string (ms (fmtBP n).1), .bool (fmtBP n).2]) ∧ Below w.heap.size w w' := by
  have hEH := Lib.hid hE
  clear hE
  cases hq : inB n (-999999) 999999
  · have hR : Hid (fmtBP n = ([], false)) := by unfold Hid fmtBP; rw [hq]; rfl
    go_enter Tryz.func75, Tryz.ntmps75
    go_wp2_with fail
    refine (within_any _ _ _ _).mono ?_
    rw [hq]
    rintro e w1 ⟨rfl, rfl⟩
    go_wp2_with fail
    go_ret2
    exact ⟨by rw [hR.out]; rfl, bb _⟩
  · have hR : Hid (fmtBP n = (Lib.itoa n, true)) := by unfold Hid fmtBP; rw [hq]; rfl
    go_enter Tryz.func75, Tryz.ntmps75
    go_wp2_with fail
    refine (within_any _ _ _ _).mono ?_
    rw [hq]
    rintro e w1 ⟨rfl, rfl⟩
    go_wp2_with fail
    refine (itoa_envP n h0 h1 _ hEH.out).mono ?_
    rintro e w2 ⟨rfl, hb2⟩
    go_wp2_with fail
    go_ret2
    exact ⟨by rw [hR.out]; rfl, hb2⟩
theorem implFormat_atP {n : Int} {f1 : List UInt8} {f2 : Bool} (h : fmtBP n = (f1, f2)) (w : World) (hE : PEnv w) (h0 : -9223372036854775808 ≤ n) (h1 : n ≤ 9223372036854775807) :
    Calls Tryz.prog 75 #[.int .i64 n] w fun e w' => e = .returned (.tuple #[.string (ms f1), .bool f2]) ∧ Below w.heap.size w w' := by
  have := implFormat_anyP n w hE h0 h1
  rw [h] at this
  exact this
set_option maxHeartbeats 1000000 in
theorem implParse_anyP (s : ByteArray) (w : World) (hE : PEnv w) (hs : s.size ≤ 2000000) :
    Calls Tryz.prog 61 #[.string s] w fun e w' => e = .returned (.tuple #[.int .i64 (numB (bl s)).1, .bool (numB (bl s)).2]) ∧ Below w.heap.size w w' := by
  have hEH := Lib.hid hE
  clear hE
  by_cases hv : ∃ v, Lib.atoiAll (bl s) = .ok v
  · obtain ⟨v, hv⟩ := hv
    have hN := numB_ok hv
    obtain ⟨hb0, hb1⟩ := Lib.atoiAll_bounds hv
    have hC := Lib.hid fun w => atoi_yesP hs hv w
    clear hv
    obtain ⟨fm, hfm⟩ : ∃ fm, fmtBP v = fm := ⟨_, rfl⟩
    obtain ⟨f1, f2⟩ := fm
    have hF := Lib.hid fun (w : World) (hE : PEnv w) => implFormat_atP hfm w hE hb0 hb1
    unfold fmtBP at hfm
    cases hq : inB v (-999999) 999999
    · rw [hq] at hfm hN
      simp only [Bool.false_eq_true, if_false, Prod.mk.injEq, Bool.false_and] at hfm hN
      obtain ⟨rfl, rfl⟩ := hfm
      replace hN := Lib.hid hN
      clear hq
      go_enter Tryz.func61, Tryz.ntmps61
      go_wp2_with fail
      refine (hC.out _).mono ?_
      rintro e w1 ⟨rfl, hb1'⟩
      go_wp2_with fail
      refine (hF.out _ (hEH.out.grow hb1')).mono ?_
      rintro e w2 ⟨rfl, hb2⟩
      go_wp2_with fail
      go_ret2
      exact ⟨by rw [hN.out]; rfl, btr hb1' hb2⟩
    · rw [hq] at hfm hN
      simp only [if_true, Prod.mk.injEq, Bool.true_and] at hfm hN
      obtain ⟨rfl, rfl⟩ := hfm
      clear hq
      cases hq : Lib.itoa v == bl s
      · rw [hq] at hN
        simp only [Bool.false_eq_true, if_false] at hN
        replace hN := Lib.hid hN
        have hq' : (Lib.itoa v != bl s) = true := by simp [bne, hq]
        go_enter Tryz.func61, Tryz.ntmps61
        go_wp2_with fail
        refine (hC.out _).mono ?_
        rintro e w1 ⟨rfl, hb1'⟩
        go_wp2_with fail
        refine (hF.out _ (hEH.out.grow hb1')).mono ?_
        rintro e w2 ⟨rfl, hb2⟩
        go_wp2_with fail
        go_ret2
        exact ⟨by rw [hN.out]; rfl, btr hb1' hb2⟩
      · rw [hq] at hN
        simp only [if_true] at hN
        replace hN := Lib.hid hN
        have hq' : (Lib.itoa v != bl s) = false := by simp [bne, hq]
        go_enter Tryz.func61, Tryz.ntmps61
        go_wp2_with fail
        refine (hC.out _).mono ?_
        rintro e w1 ⟨rfl, hb1'⟩
        go_wp2_with fail
        refine (hF.out _ (hEH.out.grow hb1')).mono ?_
        rintro e w2 ⟨rfl, hb2⟩
        go_wp2_with fail
        go_ret2
        exact ⟨by rw [hN.out]; rfl, btr hb1' hb2⟩
  · have hN := Lib.hid (numB_no (l := bl s) fun v e => hv ⟨v, e⟩)
    have hC := Lib.hid fun w hE => atoi_noP (s := s) hs (fun v e => hv ⟨v, e⟩) w hE
    clear hv
    go_enter Tryz.func61, Tryz.ntmps61
    go_wp2_with fail
    refine (hC.out _ hEH.out).mono ?_
    rintro e w1 ⟨x, N, hx0, hx1, rfl, hb1⟩
    go_wp2_with fail
    refine (implFormat_anyP x _ (hEH.out.grow hb1) hx0 hx1).mono ?_
    generalize fmtBP x = fm
    obtain ⟨f1, f2⟩ := fm
    rintro e w2 ⟨rfl, hb2⟩
    go_wp2_with fail
    go_ret2
    exact ⟨by rw [hN.out]; rfl, btr hb1 hb2⟩

theorem numB_atP {l m : List UInt8} {v : Int} {n : Nat} (h1 : magB l = m) (h2 : sgnV l = v) (h3 : m.length = n) : numB l = if inB n 1 6 && m.all isDig && Lib.itoa v == l then (v, true) else (0, false) := by rw [numB_read, h1, h2, h3]
theorem dig_stepP {l : List UInt8} {k : Nat} (hk : k < l.length) : (l.take (k + 1)).all isDig = ((l.take k).all isDig && isDig l[k]) := by
  rw [List.take_succ_eq_append_getElem hk, List.all_append]; simp
theorem val_stepP {l : List UInt8} {k : Nat} (hk : k < l.length) : valD (l.take (k + 1)) = valD (l.take k) * 10 + (l[k].toNat - 48) := by
  rw [List.take_succ_eq_append_getElem hk, valD_snoc]
theorem dig_noP {l : List UInt8} {k : Nat} (hk : k < l.length) (h : isDig l[k] = false) : l.all isDig = false := by
  rw [List.all_eq_false]; exact ⟨_, List.getElem_mem hk, by simpa using h⟩
theorem val_smallP {l : List UInt8} {k : Nat} (hk : k ≤ 6) (h : (l.take k).all isDig = true) : valD (l.take k) ≤ 999999 := by
  have h1 := valD_lt _ (l.take k) rfl h
  have h2 : 10 ^ (l.take k).length ≤ 10 ^ 6 := Nat.pow_le_pow_right (by decide) (by rw [List.length_take]; omega)
  omega

/- left out: the seat has no spec.l1Read -/
end Go.Proofs.YtpiimlmfcdjbbaaGreatDoor

/- Plain facts: a string split at a byte and joined again. No program in sight. -/
namespace Go.Proofs.YtpiimlmfcdjbbaaGreatDoor

theorem eqB_self (c : UInt8) : eqB c c.toNat = true := by rw [eqB_of]; simp
theorem eqB_inj {c d : UInt8} (h : eqB d c.toNat = true) : d = c := by rw [eqB_of] at h; simpa using h
theorem count_none {c : UInt8} : ∀ {l : List UInt8}, hasB l c.toNat = false → l.count c = 0
  | [], _ => rfl
  | d :: l, h => by
    rw [hasB_cons] at h
    have h1 : eqB d c.toNat = false := by cases e : eqB d c.toNat <;> simp_all
    have h2 : hasB l c.toNat = false := by cases e : hasB l c.toNat <;> simp_all
    rw [eqB_of] at h1
    rw [List.count_cons, count_none h2, h1]
    rfl
theorem splitK_one (c : UInt8) : ∀ (n : Nat) (l : List UInt8), l.length ≤ n → Lib.splitK [c] 0 (Lib.count l [c]) l = splitP c.toNat l := by
  intro n
  induction n with
  | zero =>
    intro l hl
    obtain rfl : l = [] := List.length_eq_zero_iff.1 (by omega)
    rw [Lib.count_one]; rfl
  | succ n ih =>
    intro l hl
    rcases cut_cases c.toNat l with h | ⟨x, d, y, rfl, h1, h2⟩
    · rw [Lib.count_one, count_none h, splitP_none h]; rfl
    · obtain rfl : d = c := eqB_inj h2
      have hc : Lib.count (x ++ d :: y) [d] = Lib.count y [d] + 1 := by
        rw [Lib.count_one, Lib.count_one, List.count_append, count_none h1, List.count_cons_self]; omega
      have hi : Lib.index (x ++ d :: y) [d] = x.length := by rw [Lib.index_one, index_some h1]
      rw [hc, splitP_some h1 h2, Lib.splitK, hi, if_neg (by rw [beq_iff_eq]; omega)]
      have ht : (x ++ d :: y).take (((x.length : Nat) : Int).toNat + 0) = x := by simp
      have hd : (x ++ d :: y).drop (((x.length : Nat) : Int).toNat + [d].length) = y := by
        rw [Int.toNat_natCast, List.length_singleton, List.drop_append, List.drop_of_length_le (by omega)]
        simp [show x.length + 1 - x.length = 1 by omega]
      rw [ht, hd, ih y (by simp at hl; omega)]

theorem joinTail_cons (sep x : List UInt8) (r : List (List UInt8)) : Lib.joinTail sep (x :: r) = sep ++ x ++ Lib.joinTail sep r := by simp [Lib.joinTail]
/-- The parts joined again are the string. -/
theorem join_split (c : UInt8) : ∀ l : List UInt8, Lib.join (splitP c.toNat l) [c] = l
  | [] => by rw [splitP, Lib.join_one]
  | d :: l => by
    have ih := join_split c l
    rw [splitP]
    obtain ⟨p, ps, hp⟩ := List.exists_cons_of_ne_nil (splitP_ne c.toNat l)
    rw [hp] at ih ⊢
    rw [Lib.join_cons] at ih
    split
    · rename_i h
      obtain rfl := eqB_inj h
      rw [Lib.join_cons, joinTail_cons, List.nil_append, List.append_assoc, ih]; rfl
    · simp only
      rw [Lib.join_cons, List.cons_append, ih]
/-- No part has the byte. -/
theorem split_has (b : Int) : ∀ l : List UInt8, ∀ p ∈ splitP b l, hasB p b = false
  | [] => by simp [splitP, hasB]
  | d :: l => by
    have ih := split_has b l
    obtain ⟨p, ps, hp⟩ := List.exists_cons_of_ne_nil (splitP_ne b l)
    rw [splitP, hp]
    rw [hp] at ih
    intro q hq
    split at hq
    · rcases List.mem_cons.1 hq with rfl | hq
      · rfl
      · exact ih q hq
    · rename_i h
      simp only at hq
      rcases List.mem_cons.1 hq with rfl | hq
      · rw [hasB_cons, ih p List.mem_cons_self, Bool.or_false]
        simpa using h
      · exact ih q (List.mem_cons_of_mem _ hq)
/-- Parts may be joined: none has the byte, the whole is short. -/
def fitJ (c : UInt8) (xs : List (List UInt8)) : Bool := !(xs.any fun x => hasB x c.toNat) && decide ((Lib.join xs [c]).length ≤ 4000)
/-- What JoinStrings gives. -/
def joinB (sep : List UInt8) (xs : List (List UInt8)) : List UInt8 × Bool :=
  match sep, xs with
  | [c], x :: r => if fitJ c (x :: r) then (Lib.join (x :: r) [c], true) else ([], false)
  | _, _ => ([], false)
theorem joinB_nil (sep : List UInt8) : joinB sep [] = ([], false) := by
  unfold joinB
  split
  · rename_i h; cases h
  · rfl
theorem joinB_sep {sep : List UInt8} (h : sep.length ≠ 1) (xs : List (List UInt8)) : joinB sep xs = ([], false) := by
  unfold joinB
  split
  · exact absurd rfl h
  · rfl
theorem joinB_one {c : UInt8} {xs : List (List UInt8)} (h : xs ≠ []) : joinB [c] xs = if fitJ c xs then (Lib.join xs [c], true) else ([], false) := by
  cases xs with
  | nil => exact absurd rfl h
  | cons x r => rfl
theorem join_back {c : UInt8} {l : List UInt8} (h : l.length ≤ 4000) : joinB [c] (splitP c.toNat l) = (l, true) := by
  rw [joinB_one (splitP_ne _ _), if_pos, join_split]
  unfold fitJ
  rw [join_split, decide_eq_true h, Bool.and_true, Bool.not_eq_true']
  rw [List.any_eq_false]
  intro p hp
  rw [split_has _ _ p hp]; simp
theorem join_snoc {xs : List (List UInt8)} (h : xs ≠ []) (y sep : List UInt8) : Lib.join (xs ++ [y]) sep = Lib.join xs sep ++ sep ++ y := by
  cases xs with
  | nil => exact absurd rfl h
  | cons x r =>
    rw [List.cons_append, Lib.join_cons, Lib.join_cons]
    simp [Lib.joinTail]
theorem join_len {xs : List (List UInt8)} (h : xs ≠ []) (c : UInt8) : (Lib.join xs [c]).length + 1 = xs.length + Lib.lens xs := by
  cases xs with
  | nil => exact absurd rfl h
  | cons x r => rw [Lib.join_length]; simp; omega
theorem join_take_le (c : UInt8) (xs : List (List UInt8)) (k : Nat) (hk : 0 < k) : (Lib.join (xs.take k) [c]).length ≤ (Lib.join xs [c]).length := by
  cases xs with
  | nil => simp
  | cons x r =>
    obtain ⟨j, rfl⟩ : ∃ j, k = j + 1 := ⟨k - 1, by omega⟩
    rw [List.take_succ_cons, Lib.join_cons, Lib.join_cons, List.length_append, List.length_append]
    have := Lib.joinTail_take_le [c] r j
    omega
theorem fit_no_has {c : UInt8} {xs : List (List UInt8)} {k : Nat} (hk : k < xs.length) (h : hasB xs[k] c.toNat = true) : fitJ c xs = false := by
  unfold fitJ
  have : (xs.any fun x => hasB x c.toNat) = true := List.any_eq_true.2 ⟨_, List.getElem_mem hk, h⟩
  rw [this]; rfl
theorem fit_no_len {c : UInt8} {xs : List (List UInt8)} {k : Nat} (hk : 0 < k) (h : 4000 < (Lib.join (xs.take k) [c]).length) : fitJ c xs = false := by
  unfold fitJ
  have := join_take_le c xs k hk
  rw [decide_eq_false (by omega), Bool.and_false]
theorem fit_yes {c : UInt8} {xs : List (List UInt8)} (h1 : (xs.any fun x => hasB x c.toNat) = false) (h2 : (Lib.join xs [c]).length ≤ 4000) : fitJ c xs = true := by
  unfold fitJ
  rw [h1, decide_eq_true h2]; rfl
theorem any_snoc {c : UInt8} {xs : List (List UInt8)} {k : Nat} (hk : k < xs.length) (h : ((xs.take k).any fun x => hasB x c.toNat) = false) (h1 : hasB xs[k] c.toNat = false) : ((xs.take (k + 1)).any fun x => hasB x c.toNat) = false := by
  rw [List.take_succ_eq_append_getElem hk, List.any_append, h]
  simp [h1]
end Go.Proofs.YtpiimlmfcdjbbaaGreatDoor

/- Contracts: words, and words read as numbers, in the program. -/
namespace Go.Proofs.YtpiimlmfcdjbbaaGreatDoor
open Go.RowKit

def numsOk (ps : List (List UInt8)) : Bool := ps.all fun p => (numB p).2
def numsV (ps : List (List UInt8)) : List Int := ps.map fun p => (numB p).1
theorem nums_step {ps : List (List UInt8)} {k : Nat} (hk : k < ps.length) (h : numsOk (ps.take k) = true) (hn : (numB ps[k]).2 = true) : numsOk (ps.take (k + 1)) = true ∧ numsV (ps.take (k + 1)) = numsV (ps.take k) ++ [(numB ps[k]).1] := by
  rw [List.take_succ_eq_append_getElem hk]
  unfold numsOk numsV at *
  refine ⟨by rw [List.all_append, h]; simp [hn], by rw [List.map_append]; rfl⟩
/-- Words in memory. -/
def WordsAt (w : World) (B : Nat) (xs : List ByteArray) : Prop := ∀ j (hj : j < xs.length), w.cell? ⟨B, j, none⟩ = some (.string xs[j])
theorem WordsAt.grow {w w' : World} {B : Nat} {xs : List ByteArray} (h : WordsAt w B xs) (hb : Below w.heap.size w w') : WordsAt w' B xs := fun j hj => (hb.cell (World.block_lt_of_cell? _ _ (h j hj))).trans (h j hj)
/-- strings.Split at one byte. -/
theorem split_any (s : ByteArray) (c : UInt8) (w : World) (hE : PEnv w) (hs : s.size ≤ 2000000) :
    Calls Tryz.prog 32 #[.string s, .string ⟨#[c]⟩] w fun e w' => ∃ (g : Nat) (xs : List ByteArray), e = .returned (.slice (some ⟨g, 0, none⟩) xs.length xs.length) ∧ xs.map bl = splitP c.toNat (bl s) ∧ WordsAt w' g xs ∧ Below w.heap.size w w' ∧ g = w.heap.size := by
  obtain ⟨m, hm⟩ := hE.maxlen
  obtain ⟨xs, hxs⟩ : ∃ xs, Lib.splitB ⟨#[c]⟩ 0 (Lib.countB s ⟨#[c]⟩) s = xs := ⟨_, rfl⟩
  have hlen : xs.length = Lib.countB s ⟨#[c]⟩ + 1 := by rw [← hxs]; exact Lib.splitB_all ⟨#[c]⟩ (Nat.le_refl 1) 0 _ _ rfl
  have hmap : xs.map bl = splitP c.toNat (bl s) := by
    rw [← hxs]
    have h := Lib.splitB_data ⟨#[c]⟩ 0 (Lib.countB s ⟨#[c]⟩) s
    have h1 := splitK_one c (bl s).length (bl s) (Nat.le_refl _)
    exact h.trans h1
  have hC := (Tryz.strings_Split s ⟨#[c]⟩ m w (by omega) hm (Nat.le_refl 1))
  rw [hxs, ← hlen] at hC
  refine hC.mono ?_
  rintro e w1 ⟨rfl, rfl⟩
  refine ⟨w.heap.size, xs, rfl, hmap, fun j hj => ?_, bal (bb _) _, rfl⟩
  have := heap_alloc_new w (.cells (xs.map Value.string).toArray 9)
  rw [cell_of_row _ _ _ _ _ _ this]
  simp [hj]

theorem infoIntL : (Tryz.prog.info? 3).map (fun i => (i.zero, i.size, i.bytes)) = some (some (.int .i64 0), 1, 8) := by kernel_rfl
def PIPost (ps : List (List UInt8)) (w : World) (e : Ending) (w' : World) : Prop :=
  (numsOk ps = true ∧ ∃ B c, e = .returned (.tuple #[.slice B ps.length c, .bool true]) ∧ Sp w w' [Own 3 1 (.slice B ps.length c) ps.length ((numsV ps).map (.int .i64))]) ∨
    (numsOk ps = false ∧ e = .returned (.tuple #[.slice none 0 0, .bool false]) ∧ Below w.heap.size w w')
theorem nums_not {ps : List (List UInt8)} {k : Nat} (hk : k < ps.length) (h : (numB ps[k]).2 = false) : numsOk ps = false := by
  unfold numsOk
  rw [List.all_eq_false]
  exact ⟨_, List.getElem_mem hk, by rw [h]; simp⟩
theorem numsV_len (ps : List (List UInt8)) : (numsV ps).length = ps.length := by unfold numsV; rw [List.length_map]

set_option maxRecDepth 100000 in
set_option maxHeartbeats 4000000 in
theorem parseInts_any (xs : List ByteArray) (g : Nat) (o cap : Nat) (w : World) (hE : PEnv w) (hx : ∀ j (hj : j < xs.length), w.cell? ⟨g, o + j, none⟩ = some (.string xs[j])) (hs : ∀ x ∈ xs, x.size ≤ 2000000) (hl : xs.length ≤ 2000000) :
    Calls Tryz.prog 34 #[.slice (some ⟨g, o, none⟩) xs.length cap] w (PIPost (xs.map bl) w) := by
  obtain ⟨i0, hi, hz0, hz1, hz2⟩ := info_parts infoIntL
  replace hE := Lib.hid hE
  replace hx := Lib.hid hx
  have hpl : (xs.map bl).length = xs.length := List.length_map _
  obtain ⟨ps, hps⟩ : ∃ ps, xs.map bl = ps := ⟨_, rfl⟩
  rw [hps] at hpl ⊢
  go_enter Tryz.func34, Tryz.ntmps34
  go_wp2_with (at_make; refine wpList_make_own _ rfl _ _ 72 rfl w.heap.size 3 i0 (.int .i64 0) 1 Tryz.underlying72 hi hz0 hz1 .i64 .i64 _ xs.length rfl rfl rfl ?m1 ?m2 ?m3 ?_)
  case m1 => rw [hz2]; omega
  case m2 => unfold maxLen; omega
  case m3 => exact Nat.le_refl _
  intro w1 hown hgrow
  have S1 : Hid (Sp w w1 [Own 3 1 (.slice (some ⟨w.heap.size, 0, none⟩) 0 xs.length) 0 []]) := (Sp.start w).own_call ((bb w).grown hgrow (Nat.le_refl _) (fun k hk => by cases hk)) hown
  clear hown hgrow
  go_wp2_with fail
  go_loopw [4, 14] (fun vo vi wr => ∃ (k : Nat) (B : Option Addr) (c : Nat) (zs : List Int), k ≤ xs.length ∧ zs.length = k ∧ vi = .int .i64 k ∧ vo = .slice B zs.length c ∧ Hid (numsOk (ps.take k) = true ∧ zs = numsV (ps.take k)) ∧ Hid (Sp w wr [Own 3 1 (.slice B zs.length c) zs.length (zs.map (.int .i64))])) (fun _ vi _ => xs.length - (intOf vi).toNat)
  case atStart => exact ⟨0, _, _, [], Nat.zero_le _, rfl, rfl, rfl, ⟨rfl, rfl⟩, S1⟩
  case round =>
    obtain ⟨k, B, c, zs, hk, hzl, rfl, rfl, HD, HS⟩ := hrel
    clear S1
    by_cases hlt : k < xs.length
    · have hkp : k < ps.length := by omega
      have m0 := (HS.out.below.cell (World.block_lt_of_cell? _ _ (hx.out k hlt))).trans (hx.out k hlt)
      have hsz := hs _ (List.getElem_mem hlt)
      have hpk : bl xs[k] = ps[k] := by simp only [← hps, List.getElem_map]
      have hcall := implParse_anyP xs[k] wr (hE.out.grow HS.out.below) hsz
      rw [hpk] at hcall
      have hst := nums_step hkp HD.out.1
      have hno := nums_not hkp
      generalize xs[k] = x at *
      generalize hzz : numB ps[k] = zz at *
      obtain ⟨z, q⟩ := zz
      dsimp only at hcall hst hno
      replace hcall := Lib.hid hcall
      replace hzl := Lib.hid hzl
      clear hpk hsz
      cases q
      · have hR := Lib.hid (hno rfl)
        clear hno hst
        go_wp2_with fail
        refine hcall.out.mono ?_
        rintro e w2 ⟨rfl, hb2⟩
        have hB := Lib.hid (HS.out.grow hb2).below
        clear hb2 HS hcall m0
        go_wp2_with fail
        go_ret2
        exact .inr ⟨hR.out, rfl, hB.out⟩
      · have hst2 := Lib.hid (hst rfl)
        clear hno hst
        go_wp2_with fail
        refine hcall.out.mono ?_
        rintro e w2 ⟨rfl, hb2⟩
        have S2 := (HS.out.grow hb2).alloc_box #[.int .i64 z] 3
        have kB := S2.cell (i := 0) rfl (o := 0) rfl
        replace S2 := Lib.hid S2
        clear hb2 HS hcall m0
        have hz6 : zs.length ≤ 2000000 := by have := hzl.out; omega
        go_wp2_with (at_builtin; refine wpList_append_src rfl _ _ rfl Tryz.underlying72 hi hz0 hz1 hz2 rfl (by decide) _ _ _ rfl (S2.out.own (i := 1) rfl) _ 1 1 [.int .i64 z] rfl (Src.one kB) (by simp [Value.oneCell']) ?c3 ?c4 ?_)
        case c3 => unfold maxLen; omega
        case c4 => omega
        intro vY wY hownY hgY hatY
        have S3 := (S2.out.own_push (i := 1) rfl (bb _) hownY hgY (by simpa using hatY)).tail
        obtain ⟨aY, cY, rfl⟩ := own_slice hownY
        have S4 : Hid (Sp w wY [Own 3 1 (.slice aY (zs ++ [z]).length cY) (zs ++ [z]).length ((zs ++ [z]).map (.int .i64))]) := by
          have e1 : (zs ++ [z]).length = zs.length + 1 := by simp
          unfold Hid
          rw [e1, List.map_append]
          exact S3
        have hlen : zs.length + 1 = (zs ++ [z]).length := by simp
        have HD2 : Hid (numsOk (ps.take (k + 1)) = true ∧ zs ++ [z] = numsV (ps.take (k + 1))) := ⟨hst2.out.1, by rw [hst2.out.2, HD.out.2]⟩
        have hzl2 : (zs ++ [z]).length = k + 1 := by rw [← hlen, hzl.out]
        clear S2 S3 kB hownY hgY hatY HD hst2
        rw [hlen]
        generalize zs ++ [z] = zs2 at *
        clear hlen hz6
        replace hzl2 := Lib.hid hzl2
        go_wp2_with fail
        go_roundw
        case rel => exact ⟨k + 1, aY, cY, zs2, by omega, hzl2.out, by go_num, rfl, HD2, S4⟩
        case measure => simp [intOf]; omega
    · obtain rfl : k = xs.length := by omega
      have htk : ps.take xs.length = ps := List.take_of_length_le (by omega)
      have hR := HD.out
      rw [htk] at hR
      have hf : Hid (∀ e, e = Ending.returned (.tuple #[.slice B zs.length c, .bool true]) → PIPost ps w e wr) := fun e he => by
        refine .inl ⟨hR.1, B, c, ?_, ?_⟩
        · rw [he, hzl, hpl]
        · have := HS.out
          rw [hzl, hR.2, ← hpl] at this
          exact this
      replace hzl := Lib.hid hzl
      clear HD HS hR
      go_wp2_with fail
      go_ret2
      exact hf.out _ rfl

end Go.Proofs.YtpiimlmfcdjbbaaGreatDoor

/- A law of the walk: a range over an iterator that keeps its state in a box of its own. No program in sight. -/
namespace Go.Proofs.YtpiimlmfcdjbbaaGreatDoor
open Go.RowKit

section
variable {F : Fence} {n : Nat} {P : Program}
/-- It stays when the block b is turned. -/
def StaysB {β : Type} (b : Nat) (J : β → World → Prop) : Prop := ∀ s W W', J s W → W.grownBy W' (some b) → J s W'
/-- What an iterator with a box b promises: it hands on some values, one after another; between them it turns its box alone. -/
def SeqBox {α : Type} (F : Fence) (n : Nat) (P : Program) (g : Nat) (lb : Array Value) (encs : α → Array Value) (b : Nat) (Kp : World → World → Prop) (S Z : List α → Prop) (N : Nat) (w : World) : Prop :=
  ∀ (l : Nat) (J Jx : List α → World → Prop) (W : World), Below w.heap.size w W → StaysB b J → StaysB b Jx →
    (∀ pre x W1, J pre W1 → pre.length < N → YieldAt F (n - 1) P l (encs x) W1 fun e W' => (e = .returned (.bool true) ∧ J (pre ++ [x]) W' ∧ Kp W1 W') ∨ (e = .returned (.bool false) ∧ Jx (pre ++ [x]) W')) →
    J [] W →
    CallsIn F n P g (#[.func (.yield l) #[] #[]] ++ lb) W fun e W' => (∃ v, e = .returned v) ∧ ((∃ xs, S xs ∧ J xs W') ∨ (∃ pre, Z pre ∧ Jx pre W'))

theorem block_stays {W W' : World} {b k : Nat} {o : Obj} (hg : W.grownBy W' (some b)) (hne : b ≠ k) (hk : W.heap[k]? = some o) : W'.heap[k]? = some o :=
  (hg.block k (Array.getElem?_eq_some_iff.1 hk).1 (fun e => hne (by cases e; rfl))).trans hk

theorem wpIn_rangeBox {α : Type} {g : Operand} {ps : Array Tmp} {assign body : Code} {Q : Exit → Act → World → Prop} {a : Act} {w : World} {gf b : Nat} {lb : Array Value} {encs : α → Array Value} {Kp : World → World → Prop} {S Z : List α → Prop} {N : Nat} {w0 : World}
    (hro : F.round = none) (h1 : 1 ≤ n) (hg : a.eval g = .func (.func gf) #[] lb) (hFg : F.fn gf) (eg : ∀ args w, (callFunc gf args).run P w = .ok (.enter gf args) w)
    (hb : b < w.heap.size) (hseq : SeqBox F (n - 1) P gf lb encs b Kp S Z N w0) (hb0 : Below w0.heap.size w0 w) (hps : ∀ x, (encs x).size = ps.size)
    (hKt : ∀ {A B C : World}, Kp A B → Kp B C → Kp A C) (hKb : ∀ (W : World) (l : Nat) (o o' : Obj), w.heap.size ≤ l → W.heap[l]? = some o → o.isCells = false → o.isWalk = false → Kp W (W.putObj l o'))
    (I : List α → World → Prop) (Ix : Code → List α → World → Prop) (hI : OwnFrom w.heap.size I) (hIx : ∀ c, OwnFrom w.heap.size (Ix c)) (hIb : StaysB b I) (hIxb : ∀ c, StaysB b (Ix c)) (h0 : I [] w) (a₁ : α → Act)
    (hassign : ∀ (l : Nat) (x : α) (W : World) (K : Act → World → Prop), K (a₁ x) W →
      assign.wpIn (F.inRound l) (n - 1 - 1) P (Exit.then K (fun _ _ _ => False)) { tmps := (ps.zip (encs x)).foldl (fun t (p, v) => t.setIfInBounds p v) a.tmps, defers := [] } W)
    (hbody : ∀ (l : Nat) (pre : List α) (x : α) (W : World), I pre W → pre.length < N → body.wpIn (F.inRound l) (n - 1 - 1) P (ownPostK Kp I Ix (pre ++ [x]) W) (a₁ x) W)
    (hdone : ∀ (D : Nat) (xs : List α) (W : World), w.heap.size ≤ D → S xs → I xs W → W.heap[D]? = some (.deferred (some [])) → Q .normal { a with defers := { target := .collected D, args := #[] } :: a.defers } W)
    (hstop : ∀ (D : Nat) (c : Code) (pre : List α) (W : World), w.heap.size ≤ D → Z pre → Ix c pre W → W.heap[D]? = some (.deferred (some [])) → c.wpIn F n P Q { a with defers := { target := .collected D, args := #[] } :: a.defers } W) :
    (Code.rangeFunc g ps assign body).wpIn F n P Q a w := by
  refine wpIn_rangeFunc fun fn hfn => ?_
  rw [hro]
  obtain ⟨m, hm⟩ : ∃ m, w.heap.size = m := ⟨_, rfl⟩
  obtain ⟨rec, hrec⟩ : ∃ rec : LoopState → Option Code → Loop, rec = fun st pe => { state := st, pending := pe, fn, tmps := a.tmps, params := ps, assign, body, defers := m } := ⟨_, rfl⟩
  obtain ⟨W1, hW1⟩ : ∃ W1, (w.alloc (.deferred (some []))).alloc (.loop (rec .ready none)) = W1 := ⟨_, rfl⟩
  have hL : W1.heap[m + 1]? = some (.loop (rec .ready none)) := by
    have h := World.alloc_heap_new (w.alloc (.deferred (some []))) (.loop (rec .ready none))
    rw [World.size_alloc, hm] at h
    rw [← hW1]; exact h
  have hD : W1.heap[m]? = some (.deferred (some [])) := by
    rw [← hW1, ← hm]; exact (Below.heap_alloc _ _ _ (by simp)).trans (World.alloc_heap_new w _)
  have hI1 : I [] W1 := hW1 ▸ hI.alloc _ (hI.alloc _ h0)
  have hb1 : Below w0.heap.size w0 W1 := hW1 ▸ hb0.trans ((((Below.refl _ w).alloc (Nat.le_refl _) _).alloc (by simp) _).mono hb0.size)
  refine ⟨m + 1, [{ target := .collected m, args := #[] }], W1, { target := .fn (.func gf) lb, args := #[.func (.yield (m + 1)) #[] #[]] }, W1, gf, #[.func (.yield (m + 1)) #[] #[]] ++ lb, W1, ?_, ?_, ?_, ?_, fun _ => h1, ?_⟩
  · rw [← hW1, hrec, ← hm]; exact run_enterLoop_outer _ _ _ _ _
  · simp only [resolve, hg]
    simp [go_sem]
  · intro f' hf'
    simp [Target.leads] at hf'
    exact hf' ▸ hFg
  · simp [invoke, go_sem, eg]
  have hstay : ∀ {β : Type} (J : β → World → Prop) (st : LoopState) (pe : Option Code), StaysB b J → StaysB b (fun s W => J s W ∧ W.heap[m + 1]? = some (.loop (rec st pe)) ∧ W.heap[m]? = some (.deferred (some []))) := fun J st pe hJ s W W' h hg' =>
    ⟨hJ s W W' h.1 hg', block_stays hg' (by omega) h.2.1, block_stays hg' (by omega) h.2.2⟩
  refine (hseq (m + 1) (fun pre W => I pre W ∧ W.heap[m + 1]? = some (.loop (rec .ready none)) ∧ W.heap[m]? = some (.deferred (some [])))
    (fun pre W => ∃ c, Ix c pre W ∧ W.heap[m + 1]? = some (.loop (rec .done (some c))) ∧ W.heap[m]? = some (.deferred (some []))) W1 hb1 (hstay I _ _ hIb)
    (fun s W W' h hg' => by obtain ⟨c, h⟩ := h; exact ⟨c, hstay (Ix c) _ _ (hIxb c) s W W' h hg'⟩) ?_ ⟨hI1, hL, hD⟩).mono ?_
  · rintro pre x W ⟨hi, hl, hk⟩ hN
    obtain ⟨W2, hW2⟩ : ∃ W2, W.putObj (m + 1) (.loop { rec .ready none with state := .busy }) = W2 := ⟨_, rfl⟩
    have hy := run_yield (P := P) (args := encs x) hl (by rw [hrec]; exact hps x)
    rw [hrec] at hy
    refine ⟨fn, _, assign, body, hy, roundIn_of_wpIn hfn (hassign _ x W _ ⟨_, run_beginRound hl (by rw [hrec]), ?_⟩)⟩
    have hl2 : W2.heap[m + 1]? = some (.loop { rec .ready none with state := .busy }) := hW2 ▸ World.putObj_heap_same (Array.getElem?_eq_some_iff.1 hl).1
    have hk2 : W2.heap[m]? = some (.deferred (some [])) := hW2 ▸ (World.putObj_heap_other (by omega)).trans hk
    have hp2 : Kp W W2 := hW2 ▸ hKb _ _ _ _ (by omega) hl rfl rfl
    have hi2 : I pre W2 := hW2 ▸ hI.putObj _ hi (by omega) hl rfl
    have hend : ∀ (j : Option Code) (W3 : World), KeepsOthers W2 W3 → W3.heap[m + 1]? = some (.loop { rec .ready none with state := .busy }) ∧
        ∃ W4, (Instr.endRound (m + 1) j).run P W3 = .ok (.bool j.isNone) W4 ∧ W4 = W3.putObj (m + 1) (.loop (rec (if j.isNone then .ready else .done) j)) ∧ W4.heap[m + 1]? = some (.loop (rec (if j.isNone then .ready else .done) j)) ∧ W4.heap[m]? = some (.deferred (some [])) := fun j W3 h3 => by
      have hl3 := h3.same _ _ hl2 rfl
      refine ⟨hl3, _, ?_, rfl, World.putObj_heap_same (Array.getElem?_eq_some_iff.1 hl3).1, (World.putObj_heap_other (by omega)).trans (h3.same _ _ hk2 rfl)⟩
      have := run_endRound (P := P) j hl3
      rw [hrec] at this ⊢
      exact this
    have hgo : ∀ (c : Code) (W3 : World), KeepsOthers W2 W3 → Ix c (pre ++ [x]) W3 → ∃ v W4, (Instr.endRound (m + 1) (some c)).run P W3 = .ok v W4 ∧
        (((Ending.returned v = .returned (.bool true)) ∧ (I (pre ++ [x]) W4 ∧ W4.heap[m + 1]? = some (.loop (rec .ready none)) ∧ W4.heap[m]? = some (.deferred (some []))) ∧ Kp W W4) ∨
          (Ending.returned v = .returned (.bool false) ∧ ∃ c, Ix c (pre ++ [x]) W4 ∧ W4.heap[m + 1]? = some (.loop (rec .done (some c))) ∧ W4.heap[m]? = some (.deferred (some [])))) := fun c W3 h3 hx => by
      obtain ⟨hl3, W4, hr, e4, hl4, hk4⟩ := hend (some c) W3 h3
      exact ⟨_, W4, hr, .inr ⟨rfl, c, e4 ▸ (hIx c).putObj _ hx (by omega) hl3 rfl, hl4, hk4⟩⟩
    rw [hW2]
    refine wpIn_mono (hbody _ pre x _ hi2 hN) ?_
    rintro e a3 W3 hp
    cases e with
    | normal =>
      obtain ⟨h3, hkp, hi3⟩ := hp
      obtain ⟨hl3, W4, hr, e4, hl4, hk4⟩ := hend none W3 h3
      exact ⟨_, W4, hr, .inl ⟨rfl, ⟨e4 ▸ hI.putObj _ hi3 (by omega) hl3 rfl, hl4, hk4⟩, hKt (hKt hp2 hkp) (e4 ▸ hKb _ _ _ _ (by omega) hl3 rfl rfl)⟩⟩
    | ret => exact hgo .ret W3 hp.1 hp.2
    | exit id => exact hgo (.exit id) W3 hp.1 hp.2
    | goto t => exact hgo (.goto t) W3 hp.1 hp.2
    | panic ch => exact hp.elim
    | outgrown => exact hp.elim
  · rintro e W2 ⟨⟨v, rfl⟩, (⟨xs, hS, hi, hl, hk⟩ | ⟨pre, hZ, c, hi, hl, hk⟩)⟩
    · have hr := run_endLoop (P := P) hl (by rw [hrec]; simp)
      rw [hrec] at hr
      exact ⟨none, _, hr, hdone m xs _ (by omega) hS (hI.putObj _ hi (by omega) hl rfl) ((World.putObj_heap_other (by omega)).trans hk)⟩
    · have hr := run_endLoop (P := P) hl (by rw [hrec]; simp)
      rw [hrec] at hr
      exact ⟨some c, _, hr, hstop m c pre _ (by omega) hZ ((hIx c).putObj _ hi (by omega) hl rfl) ((World.putObj_heap_other (by omega)).trans hk)⟩
end
end Go.Proofs.YtpiimlmfcdjbbaaGreatDoor

/- Memory in parts, within a range over an iterator that turns a box of its own. No program in sight. -/
namespace Go.Proofs.YtpiimlmfcdjbbaaGreatDoor
open Go.RowKit

/-- The blocks of a part are cells. -/
def Cellish (q : Asn) : Prop := ∀ w F, q.p w F → ∀ b ∈ F, ∀ o, w.heap[b]? = some o → o.isCells = true
theorem cellish_box (b : Nat) (t : TypeId) (cs : Array Value) : Cellish (Box b t cs) := by
  rintro w F ⟨rfl, h⟩ b' hb o ho
  obtain rfl : b' = b := by simpa using hb
  rw [h] at ho; cases ho; rfl
theorem cellish_own (e : TypeId) (size : Nat) (v : Value) (n : Nat) (xs : List Value) : Cellish (Own e size v n xs) := by
  rintro w F ⟨rfl, -, ⟨rfl, -⟩ | ⟨g, cap, cur, rfl, -, hh, -⟩⟩ b hb o ho
  · simp [Value.ownBlock] at hb
  · obtain rfl : b = g := by simpa [Value.ownBlock] using hb
    rw [hh] at ho; cases ho; rfl
theorem sep_cellish {w : World} : ∀ {ps : List Asn} {F : List Nat}, sep ps w F → (∀ q ∈ ps, Cellish q) → ∀ b ∈ F, ∀ o, w.heap[b]? = some o → o.isCells = true
  | [], _, h, _ => by subst h; simp
  | q :: ps, _, h, hq => by
    obtain ⟨F1, F2, rfl, _, h1, h2⟩ := h
    intro b hb o ho
    rcases List.mem_append.1 hb with hb | hb
    · exact hq q (by simp) w F1 h1 b hb o ho
    · exact sep_cellish h2 (fun x hx => hq x (by simp [hx])) b hb o ho
theorem Sp.turn {w0 A B : World} {ps : List Asn} {row : Option Nat} (h : Sp w0 A ps) (hq : ∀ q ∈ ps, Cellish q) (hg : A.grownBy B row) (hr : ∀ r, row = some r → w0.heap.size ≤ r ∧ ∃ o : Obj, A.heap[r]? = some o ∧ o.isCells = false) : Sp w0 B ps := by
  obtain ⟨h1, F, h2, h3⟩ := h
  refine ⟨h1.grown hg h1.size (fun k e => by have := (hr k e).1; omega), F, sep_keep h2 fun b hb => hg.block b (sep_lt h2 b hb) (fun e => ?_), h3⟩
  obtain ⟨-, o, ho, hc⟩ := hr b e.symm
  have := sep_cellish h2 hq b hb o ho
  rw [hc] at this; exact absurd this (by decide)
theorem keeps_below {W W' : World} (h : Below W.heap.size W W') : KeepsOthers W W' := ⟨h.size, fun k _ hk _ => (h.block k (Array.getElem?_eq_some_iff.1 hk).1).trans hk⟩
theorem own_cells {w : World} {B : Nat} {e : TypeId} {size : Nat} {v : Value} {n : Nat} {xs : List Value} (h : w.ownsRow B e size v n xs) : ∀ (j : Nat) (o : Obj), v.ownBlock = some j → (w.heap[j]? = some o) → o.isCells = true := by
  intro j o hj ho
  obtain ⟨-, ⟨rfl, -⟩ | ⟨g, cap, cur, rfl, -, hh, -⟩⟩ := h
  · simp [Value.ownBlock] at hj
  · obtain rfl : g = j := by simpa [Value.ownBlock] using hj
    rw [hh] at ho
    cases ho
    rfl

/-- A block, whatever it holds. -/
def Blk (b : Nat) (o : Obj) : Asn where
  p w F := F = [b] ∧ w.heap[b]? = some o
  lt := by
    rintro w F ⟨rfl, h⟩ b' hb
    obtain rfl : b' = b := by simpa using hb
    exact (Array.getElem?_eq_some_iff.1 h).1
  keep := by
    rintro w w' F ⟨rfl, h⟩ hk
    exact ⟨rfl, (hk b (by simp)).trans h⟩
/-- Parts among which a block b is not. -/
def SpN (b : Nat) (w0 W : World) (ps : List Asn) : Prop := w0.heap.size ≤ b ∧ b < W.heap.size ∧ Below w0.heap.size w0 W ∧ ∃ F, sep ps W F ∧ (∀ c ∈ F, w0.heap.size ≤ c) ∧ b ∉ F
theorem SpN.sp {b : Nat} {w0 W : World} {ps : List Asn} (h : SpN b w0 W ps) : Sp w0 W ps := by
  obtain ⟨_, _, h1, F, h2, h3, _⟩ := h
  exact ⟨h1, F, h2, h3⟩
theorem SpN.blk {b : Nat} {w0 W : World} {ps : List Asn} (h : SpN b w0 W ps) : ∃ o, W.heap[b]? = some o ∧ Sp w0 W (Blk b o :: ps) := by
  obtain ⟨h0, h4, h1, F, h2, h3, h5⟩ := h
  refine ⟨W.heap[b], Array.getElem?_eq_getElem h4, h1, [b] ++ F, ⟨[b], F, rfl, fun c hc hF => ?_, ⟨rfl, Array.getElem?_eq_getElem h4⟩, h2⟩, fun c hc => ?_⟩
  · obtain rfl : c = b := by simpa using hc
    exact h5 hF
  · rcases List.mem_append.1 hc with hc | hc
    · obtain rfl : c = b := by simpa using hc
      exact h0
    · exact h3 c hc
theorem Sp.off {b : Nat} {w0 W : World} {ps : List Asn} {o : Obj} (h : Sp w0 W (Blk b o :: ps)) : SpN b w0 W ps ∧ W.heap[b]? = some o := by
  obtain ⟨h1, F, ⟨F1, F2, rfl, hd, ⟨rfl, hq⟩, h2⟩, h3⟩ := h
  exact ⟨⟨h3 b (by simp), (Array.getElem?_eq_some_iff.1 hq).1, h1, F2, h2, fun c hc => h3 c (by simp [hc]), hd b (by simp)⟩, hq⟩
theorem Sp.box_off {b : Nat} {t : TypeId} {cs : Array Value} {w0 W : World} {ps : List Asn} (h : Sp w0 W (Box b t cs :: ps)) : SpN b w0 W ps := by
  obtain ⟨h1, F, ⟨F1, F2, rfl, hd, ⟨rfl, hq⟩, h2⟩, h3⟩ := h
  exact ⟨h3 b (by simp), (Array.getElem?_eq_some_iff.1 hq).1, h1, F2, h2, fun c hc => h3 c (by simp [hc]), hd b (by simp)⟩
theorem SpN.stay {b : Nat} {w0 W W' : World} {ps : List Asn} (h : SpN b w0 W ps) (hg : W.grownBy W' (some b)) : SpN b w0 W' ps := by
  obtain ⟨h0, h4, h1, F, h2, h3, h5⟩ := h
  refine ⟨h0, Nat.lt_of_lt_of_le h4 hg.size, h1.grown hg h1.size (fun k e => by cases e; exact h0), F, sep_keep h2 fun c hc => hg.block c (sep_lt h2 c hc) (fun e => by cases e; exact h5 hc), h3, h5⟩
theorem SpN.turn {b : Nat} {w0 A B : World} {ps : List Asn} {row : Option Nat} (h : SpN b w0 A ps) (hq : ∀ q ∈ ps, Cellish q) (hg : A.grownBy B row) (hr : ∀ r, row = some r → w0.heap.size ≤ r ∧ ∃ o : Obj, A.heap[r]? = some o ∧ o.isCells = false) : SpN b w0 B ps := by
  obtain ⟨h0, h4, h1, F, h2, h3, h5⟩ := h
  refine ⟨h0, Nat.lt_of_lt_of_le h4 hg.size, h1.grown hg h1.size (fun k e => by have := (hr k e).1; omega), F, sep_keep h2 fun c hc => hg.block c (sep_lt h2 c hc) (fun e => ?_), h3, h5⟩
  obtain ⟨-, o, ho, hc'⟩ := hr c e.symm
  have := sep_cellish h2 hq c hc o ho
  rw [hc'] at this; exact absurd this (by decide)
theorem spN_ownFrom {β : Type} {b : Nat} {w0 : World} (B : Nat) (hB : w0.heap.size ≤ B) (I : β → World → Prop) (hI : ∀ s W, I s W → ∃ ps, SpN b w0 W ps ∧ (∀ q ∈ ps, Cellish q) ∧ ∀ W', SpN b w0 W' ps → I s W') : OwnFrom B I := by
  intro s W W' row hs hg hr
  obtain ⟨ps, h1, h2, h3⟩ := hI s W hs
  exact h3 W' (h1.turn h2 hg fun r e => ⟨Nat.le_trans hB (hr r e).1, (hr r e).2⟩)
theorem spN_stays {β : Type} {b : Nat} {w0 : World} (I : β → World → Prop) (hI : ∀ s W, I s W → ∃ ps, SpN b w0 W ps ∧ ∀ W', SpN b w0 W' ps → I s W') : StaysB b I := by
  intro s W W' hs hg
  obtain ⟨ps, h1, h3⟩ := hI s W hs
  exact h3 W' (h1.stay hg)
/-- The box is as it was. -/
def KeepO (b : Nat) (W W' : World) : Prop := W'.heap[b]? = W.heap[b]?
theorem keepO_t {b : Nat} {A B C : World} (h1 : KeepO b A B) (h2 : KeepO b B C) : KeepO b A C := Eq.trans h2 h1
theorem keepO_b {b : Nat} {w : World} (hb : b < w.heap.size) (W : World) (l : Nat) (o o' : Obj) (hl : w.heap.size ≤ l) (_ : W.heap[l]? = some o) (_ : o.isCells = false) (_ : o.isWalk = false) : KeepO b W (W.putObj l o') := World.putObj_heap_other (by omega)
end Go.Proofs.YtpiimlmfcdjbbaaGreatDoor

/- Contract: strings.Lines, as an iterator. -/
namespace Go.Proofs.YtpiimlmfcdjbbaaGreatDoor
open Go.RowKit Go.Shelf

attribute [local go_sem] Oper.semAt_some

/-- A line: a string that is not too long. -/
abbrev Ln := {x : ByteArray // x.size ≤ 2000000}
def lnB (x : Ln) : List UInt8 := bl x.val
def lnEncs (x : Ln) : Array Value := #[.string x.val]
theorem linesB_ne : ∀ {l : List UInt8}, l ≠ [] → linesB l ≠ []
  | [], h => absurd rfl h
  | c :: l, _ => by
    unfold linesB
    split
    · simp
    · cases linesB l <;> simp
theorem linesB_len : ∀ l : List UInt8, (linesB l).length ≤ l.length
  | [] => Nat.le_refl _
  | c :: l => by
    have ih := linesB_len l
    unfold linesB
    split
    · simp only [List.length_cons]; omega
    · cases h : linesB l with
      | nil => simp
      | cons p ps => rw [h] at ih; simp only [List.length_cons] at ih ⊢; omega
/-- The size of the string in a box. -/
def sizeB (b : Nat) (w : World) : Nat := match w.cell? ⟨b, 0, none⟩ with
  | some (.string r) => r.size
  | _ => 0
theorem below_stays {b : Nat} {W W' : World} (h : Below W.heap.size W W') : W.grownBy W' (some b) := ⟨h.os, h.tape, h.output, h.size, fun k hk _ => h.block k hk⟩
/-- What is left of a text. -/
def LeftR (s : List UInt8) (pre : List Ln) (r : List UInt8) : Prop := linesB s = pre.map lnB ++ linesB r
theorem LeftR.len {s : List UInt8} {pre : List Ln} {r : List UInt8} (h : LeftR s pre r) (hr : r ≠ []) : pre.length < s.length := by
  have h1 := linesB_len s
  have h2 := congrArg List.length h
  have h3 := List.length_pos_iff.2 (linesB_ne hr)
  rw [List.length_append, List.length_map] at h2
  omega
theorem LeftR.some {s : List UInt8} {pre : List Ln} {x y : List UInt8} {c : UInt8} {p : Ln} (h : LeftR s pre (x ++ c :: y)) (h1 : hasB x 10 = false) (h2 : eqB c 10 = true) (hp : lnB p = x ++ [c]) : LeftR s (pre ++ [p]) y := by
  unfold LeftR at *
  rw [h, linesB_some h1 h2, List.map_append, List.map_cons, List.map_nil, hp, List.append_assoc]; rfl
theorem LeftR.none {s : List UInt8} {pre : List Ln} {r : List UInt8} {p : Ln} (h : LeftR s pre r) (h1 : hasB r 10 = false) (hr : r ≠ []) (hp : lnB p = r) : LeftR s (pre ++ [p]) [] := by
  unfold LeftR at *
  rw [h, linesB_none h1 hr, List.map_append, List.map_cons, List.map_nil, hp, List.append_assoc]; rfl
theorem lines_extract_left {r : ByteArray} {x y : List UInt8} {c : UInt8} (h : bl r = x ++ c :: y) : bl (r.extract 0 (x.length + 1)) = x ++ [c] ∧ bl (r.extract (x.length + 1) r.size) = y ∧ x.length + 1 ≤ r.size := by
  have hl := congrArg List.length h
  rw [bl_length] at hl
  simp only [List.length_append, List.length_cons] at hl
  refine ⟨?_, ?_, by omega⟩
  · rw [bl_extract, h]
    simp [List.take_append]
    exact List.take_of_length_le (by omega)
  · rw [bl_extract, h, List.drop_append]
    simp only [List.drop_length_add_append, List.drop_eq_nil_of_le (show x.length ≤ x.length + 1 by omega), List.nil_append, show x.length + 1 - x.length = 1 by omega, List.drop_succ_cons, List.drop_zero]
    exact List.take_of_length_le (by omega)

set_option maxRecDepth 100000 in
set_option maxHeartbeats 4000000 in
theorem lines1_seq (s : ByteArray) (hs : s.size ≤ 2000000) (Bs : Nat) (w0 : World) (hb : w0.heap[Bs]? = some (.cells #[.string s] 9 (0, 0))) :
    SeqBox Fence.wide 9 Tryz.prog 57 #[.pointer (some ⟨Bs, 0, none⟩)] lnEncs Bs (KeepO Bs) (fun xs => linesB (bl s) = xs.map lnB) (fun pre => ∃ t, linesB (bl s) = pre.map lnB ++ t) 2000000 w0 := by
  intro l J Jx W hW hJ hJx hY h0
  have hBW : Boxed W Bs 9 (.string s) := (hW.block Bs (Array.getElem?_eq_some_iff.1 hb).1).trans hb
  refine callsIn_of_wp Tryz.func57 rfl trivial ?_ rfl
  simp only [Tryz.ntmps57, List.size_toArray, List.length_cons, List.length_nil, Nat.reduceAdd, Nat.reduceSub, Array.replicate_succ, Array.replicate_zero, List.push_toArray, List.append_toArray, List.nil_append, List.cons_append]
  gi_wp2
  gi_loopw [3, 4] (fun _ _ wr => ∃ (pre : List Ln) (r : ByteArray), Boxed wr Bs 9 (.string r) ∧ Hid (J pre wr) ∧ Hid (LeftR (bl s) pre (bl r)) ∧ r.size ≤ s.size) (fun _ _ wr => sizeB Bs wr)
  case atStart => exact ⟨[], s, hBW, h0, rfl, Nat.le_refl _⟩
  case round =>
    obtain ⟨pre, r, hB, hJs, hL, hrs⟩ := hrel
    have c0 := hB.cell
    have f0 := hB.frozen
    replace hY := Lib.hid hY
    clear hb hBW h0 hW
    by_cases hz : (0 : Int) < (r.size : Int)
    · have hrne : bl r ≠ [] := fun e => by
        have h9 : r.size = 0 := by have h8 := congrArg List.length e; rwa [bl_length] at h8
        omega
      have hpl := hL.out.len hrne
      rw [bl_length] at hpl
      rcases cut_cases 10 (bl r) with hn | ⟨x, c, y, hxy, hx, hc⟩
      · have hI : Lib.indexByte r.data.toList (Int.toNat 10).toUInt8 = -1 := index_none (b := 10) hn
        have hJ2 := hJ _ _ _ hJs.out (grownBy_setCell' wr Bs (.string ⟨#[]⟩))
        have hB2 := hB.set (.string ⟨#[]⟩)
        have hln : lnB ⟨r, by omega⟩ = bl r := rfl
        have hL2 := hL.out.none hn hrne hln
        obtain ⟨fn, tmps, assign, body, hy, hR⟩ := hY.out pre ⟨r, by omega⟩ _ hJ2 (by omega)
        unfold lnEncs at hy
        dsimp only at hy
        have hms : sizeB Bs wr = r.size := by unfold sizeB; rw [c0]
        replace hL2 := Lib.hid hL2
        replace hB2 := Lib.hid hB2
        replace hms := Lib.hid hms
        clear hJ2 hL
        gi_wp2_with (refine ⟨trivial, ?_⟩; gi_at_call 58; refine (callsIn_wide.2 (Tryz.strings_IndexByte r 10 _)).mono ?_; rintro e w' ⟨rfl, rfl⟩; rw [hI])
        refine hR.mono ?_
        rintro e W3 (⟨rfl, hJ3, hk3⟩ | ⟨rfl, hJx3⟩)
        · have hB3 : Boxed W3 Bs 9 (.string ⟨#[]⟩) := Eq.trans hk3 hB2.out
          gi_wp2
          go_roundw
          case rel => exact ⟨_, ⟨#[]⟩, hB3, hJ3, hL2.out, Nat.zero_le _⟩
          case measure =>
            rw [hms.out]
            unfold sizeB
            rw [hB3.cell]
            show (0 : Nat) < r.size
            omega
        · gi_wp2
          refine bodyPost_ret (results_none rfl _ _ _) rfl ?_
          exact ⟨⟨_, rfl⟩, .inr ⟨_, ⟨_, hL2.out⟩, hJx3⟩⟩
      · obtain ⟨e1, e2, e3⟩ := lines_extract_left hxy
        have hcn : c = 10 := by
          have := eqB_of c 10
          rw [show (((10 : UInt8).toNat : Nat) : Int) = 10 from rfl, hc] at this
          exact (beq_iff_eq.1 this.symm)
        have hI : Lib.indexByte r.data.toList (Int.toNat 10).toUInt8 = (x.length : Int) := by
          show Lib.indexByte (bl r) 10 = _
          rw [hxy, hcn]; exact index_some hx
        obtain ⟨k, hk⟩ : ∃ k, x.length = k := ⟨_, rfl⟩
        rw [hk] at e1 e2 e3 hI
        obtain ⟨m, hm⟩ : ∃ m, k + 1 = m := ⟨_, rfl⟩
        have hw1 : IntKind.i64.wrap ((k : Int) + 1) = (m : Int) := by rw [show (k : Int) + 1 = m by omega]; exact IntWalk.i64_in _ (by omega)
        have h0m : (0 : Int) ≤ (m : Int) := by omega
        have hmr : (m : Int) ≤ (r.size : Int) := by omega
        rw [hm] at e1 e2 e3
        have hk1 : (r.extract 0 m).size ≤ 2000000 := by
          have := congrArg List.length e1
          rw [bl_length, List.length_append, List.length_singleton, hk] at this
          omega
        have hJ2 := hJ _ _ _ (hJ _ _ _ hJs.out (grownBy_setCell' wr Bs (.string (r.extract m r.size)))) (below_stays (bdr (bb _)))
        have hB2 := (show Boxed (wr.setCell ⟨Bs, 0, none⟩ (.string (r.extract m r.size))).drew Bs 9 (.string (r.extract m r.size)) from hB.set (.string (r.extract m r.size)))
        have hln : lnB ⟨r.extract 0 m, hk1⟩ = x ++ [c] := e1
        have hL1 := hL.out
        rw [hxy] at hL1
        have hL2 := hL1.some hx hc hln
        have hsz2 : (r.extract m r.size).size < r.size := by
          rw [ByteArray.size_extract]; omega
        rw [← e2] at hL2
        obtain ⟨fn, tmps, assign, body, hy, hR⟩ := hY.out pre ⟨r.extract 0 m, hk1⟩ _ hJ2 (by omega)
        unfold lnEncs at hy
        dsimp only at hy
        have hms : sizeB Bs wr = r.size := by unfold sizeB; rw [c0]
        have h0k : (0 : Int) ≤ (k : Int) := by omega
        replace hL2 := Lib.hid hL2
        replace hB2 := Lib.hid hB2
        replace hms := Lib.hid hms
        replace hsz2 := Lib.hid hsz2
        replace hk := Lib.hid hk
        replace hm := Lib.hid hm
        clear hJ2 hL hL1 hxy e1 e2 hln hx hc hcn
        gi_upto_region 4 with (refine ⟨trivial, ?_⟩; gi_at_call 58; refine (callsIn_wide.2 (Tryz.strings_IndexByte r 10 _)).mono ?_; rintro e w' ⟨rfl, rfl⟩; rw [hI])
        refine wpIn_wide.2 ?_
        refine wp_region_tail_lit (S := (fun w' => w'.cell? ⟨Bs, 0, none⟩ = some (.string r))) 9 [false, false, false, false, false, false, false, false, false, false] (by kernel_rfl) (by kernel_rfl) (by kernel_rfl) ?_ ?_
        · exact c0
        intro hSc
        (refine walkT_take (i := 0) (v := ?_) rfl (by kernel_rfl) (by decide) (by kernel_rfl) (by kernel_rfl) (fun _ _ _ h => h) (Or.inl ⟨by rfl, ?_⟩) (by assumption) ?_; rotate_left; (focus (intro w hSw; (try dsimp only at hSw); go_simp; (try with_reducible rfl); done)); (try simp only [put_rules]))
        (refine walkT_take (i := 1) (v := ?_) rfl (by kernel_rfl) (by decide) (by kernel_rfl) (by kernel_rfl) (fun _ _ _ h => h) (Or.inl ⟨by rfl, ?_⟩) (by assumption) ?_; rotate_left; (focus (intro w hSw; (try dsimp only at hSw); go_simp; (try with_reducible rfl); done)); (try simp only [put_rules]))
        (refine walkT_take (i := 2) (v := ?_) rfl (by kernel_rfl) (by decide) (by kernel_rfl) (by kernel_rfl) (fun _ _ _ h => h) (Or.inl ⟨by rfl, ?_⟩) (by assumption) ?_; rotate_left; (focus (intro w hSw; (try dsimp only at hSw); go_simp; (try with_reducible rfl); done)); (try simp only [put_rules]))
        (refine walkT_take (i := 3) (v := ?_) rfl (by kernel_rfl) (by decide) (by kernel_rfl) (by kernel_rfl) (fun _ _ _ h => h) (Or.inl ⟨by rfl, ?_⟩) (by assumption) ?_; rotate_left; (focus (intro w hSw; (try dsimp only at hSw); go_simp; (try with_reducible rfl); done)); (try simp only [put_rules]))
        (refine walkT_take (i := 4) (v := ?_) rfl (by kernel_rfl) (by decide) (by kernel_rfl) (by kernel_rfl) (fun _ _ _ h => h) (Or.inl ⟨by rfl, ?_⟩) (by assumption) ?_; rotate_left; (focus (intro w hSw; (try dsimp only at hSw); go_simp; (try with_reducible rfl); done)); (try simp only [put_rules]))
        (refine walkT_take (i := 5) (v := ?_) rfl (by kernel_rfl) (by decide) (by kernel_rfl) (by kernel_rfl) (fun _ _ _ h => h) (Or.inl ⟨by rfl, ?_⟩) (by assumption) ?_; rotate_left; (focus (intro w hSw; (try dsimp only at hSw); go_simp; (try with_reducible rfl); done)); (try simp only [put_rules]))
        (refine walkT_take (i := 6) (v := ?_) rfl (by kernel_rfl) (by decide) (by kernel_rfl) (by kernel_rfl) (fun _ _ _ h => h) (Or.inl ⟨by rfl, ?_⟩) (by assumption) ?_; rotate_left; (focus (intro w hSw; (try dsimp only at hSw); go_simp; (try with_reducible rfl); done)); (try simp only [put_rules]))
        (refine walkT_take (i := 7) (v := ?_) rfl (by kernel_rfl) (by decide) (by kernel_rfl) (by kernel_rfl) (fun _ _ _ h => h) (Or.inl ⟨by rfl, ?_⟩) (by assumption) ?_; rotate_left; (focus (intro w hSw; (try dsimp only at hSw); go_simp; (try with_reducible rfl); done)); (try simp only [put_rules]))
        (refine walkT_take (i := 8) (v := ?_) rfl (by kernel_rfl) (by decide) (by kernel_rfl) (by kernel_rfl) (fun _ _ _ h => h) (Or.inl ⟨by rfl, ?_⟩) (by assumption) ?_; rotate_left; (focus (intro w hSw; (try dsimp only at hSw); go_simp; (try with_reducible rfl); done)); (try simp only [put_rules]))
        (refine walkT_done (by kernel_rfl) ?_)
        go_wp2_with fail
        clear hSc
        gi_wp2
        refine hR.mono ?_
        rintro e W3 (⟨rfl, hJ3, hk3⟩ | ⟨rfl, hJx3⟩)
        · have hB3 : Boxed W3 Bs 9 (.string (r.extract m r.size)) := Eq.trans hk3 hB2.out
          gi_wp2
          go_roundw
          case rel => exact ⟨_, _, hB3, hJ3, hL2.out, by have := hsz2.out; omega⟩
          case measure =>
            rw [hms.out]
            unfold sizeB
            rw [hB3.cell]
            exact hsz2.out
        · gi_wp2
          refine bodyPost_ret (results_none rfl _ _ _) rfl ?_
          exact ⟨⟨_, rfl⟩, .inr ⟨_, ⟨_, hL2.out⟩, hJx3⟩⟩
    · obtain rfl : r = ByteArray.empty := by
        apply bl_inj
        have : (bl r).length = 0 := by rw [bl_length]; omega
        rw [List.length_eq_zero_iff.1 this]; rfl
      gi_wp2
      go_end0
      have hL3 : linesB (bl s) = pre.map lnB := by
        have := hL.out
        unfold LeftR at this
        rw [this]
        exact List.append_nil _
      first | exact ⟨⟨_, rfl⟩, .inl ⟨_, hL3, hJs.out⟩⟩ | (refine ⟨⟨_, rfl⟩, ?_⟩; simp; exact .inl ⟨_, hL3, hJs.out⟩)

set_option maxHeartbeats 1000000 in
/-- strings.Lines: the string is boxed; the function value captures the box. -/
theorem lines_any (s : ByteArray) (w : World) :
    Calls Tryz.prog 31 #[.string s] w fun e w' => e = .returned (.func (.func 57) #[] #[.pointer (some ⟨w.heap.size, 0, none⟩)]) ∧ w' = w.alloc (.cells #[.string s] 9) := by
  go_enter Tryz.func31, Tryz.ntmps31
  go_wp2_with fail
  go_ret
  exact ⟨rfl, rfl⟩
end Go.Proofs.YtpiimlmfcdjbbaaGreatDoor

/- A drawn region inside a round, walked as outside of one. No program in sight. -/
namespace Go.Proofs.YtpiimlmfcdjbbaaGreatDoor

section
variable {n l : Nat} {P : Program} {Q : Exit → Act → World → Prop}
/-- No operation defers a call. -/
def noDefer (ops : Array Oper) : Bool := ops.all fun o => match o.op with | .defer _ => false | _ => true
theorem op_in_round {o : Oper} {a : Act} {w : World} {K : Act → World → Prop} (hd : ∀ c, o.op ≠ .defer c) (h : o.wp P a w K Q) : o.wpIn (Fence.wide.inRound l) n P a w K Q := by
  unfold Oper.wpIn
  refine ⟨fun f _ => trivial, ?_⟩
  rw [Oper.semAt_eq _ _ _ hd]
  unfold Oper.wp at h
  generalize (execOp a.eval o).run P w = r at *
  cases r with
  | ok x w' =>
    cases x <;> simp only [Oper.upon, Oper.uponIn] at h ⊢
    case value v => exact h
    case skip => exact h
    case defer d => exact h
    case enter f args => exact ⟨fun e => (by cases e), CallsIn.inRound l (callsIn_wide.2 h)⟩
    case row row args => exact ⟨fun e => (by cases e), fun c cs _ => let ⟨v, w1, r, s⟩ := h c cs; ⟨v, w1, r, stepsIn_wide.2 s⟩⟩
  | halt x w' => cases x <;> simp only [Oper.upon, Oper.uponIn] at h ⊢; exact h
theorem wpOp_in_round {ops : Array Oper} (hd : noDefer ops = true) (hQ : ¬ LetsOut Q) {i : Nat} {a : Act} {w : World} {K : Act → World → Prop} (h : wpOp P ops Q i K a w) : wpOpIn (Fence.wide.inRound l) n P ops Q i K a w := by
  unfold wpOp at h
  unfold wpOpIn
  cases ho : ops[i]? with
  | none => rw [ho] at h; exact h
  | some o =>
    rw [ho] at h
    simp only at h ⊢
    split
    · rename_i hw
      rw [if_pos hw] at h
      refine op_in_round (fun c hc => ?_) (h.resolve_right fun e => hQ e.2)
      unfold noDefer at hd
      rw [Array.all_eq_true'] at hd
      have := hd o (Array.mem_of_getElem? ho)
      rw [hc] at this
      cases this
    · rename_i hw
      rw [if_neg hw] at h
      exact ⟨fun _ _ => trivial, h⟩
theorem wpAny_in_round {md : Region.Mode} {ops : Array Oper} (hd : noDefer ops = true) (hQ : ¬ LetsOut Q) : ∀ (f : Nat) (s : Array Bool) (a : Act) (w : World), wpAny P md ops Q f s a w → wpAnyIn (Fence.wide.inRound l) n P md ops Q f s a w
  | 0, _, _, _, h => h
  | f + 1, _, _, _, h => ⟨h.1, fun i hi => wpOpIn_mono (fun a' w' h' => wpAny_in_round hd hQ f _ a' w' h') (wpOp_in_round hd hQ (h.2 i hi))⟩
theorem wpIn_round_held_lit {S : World → Prop} {id : Nat} {a : Act} {w : World} {ops : List Oper} (N : Nat) (s0 : List Bool) (hN : ops.length = N) (hs : Array.replicate ops.toArray.size false = s0.toArray)
    (hd : noDefer ops.toArray = true) (hm : P.follows .mixedOrders = true) (hQ : ¬ LetsOut Q) (hS : S w.drew) (h : S w.drew → wpAnyH P .any ops.toArray Q S N s0.toArray a w.drew) : (Code.region id ops.toArray true).wpIn (Fence.wide.inRound l) n P Q a w := by
  refine wpIn_region_any hm (wpAny_in_round hd hQ _ _ _ _ ?_)
  have := wpAny_of_held _ _ _ _ (h hS)
  rw [hs, List.size_toArray, hN]
  exact this
theorem any_of_tail {S : World → Prop} {a : Act} {w : World} {ops : List Oper} (n : Nat) (hok : tailOk .any ops.toArray n = true) (hS : S w.drew)
    (h : S w.drew → walkT P .any ops.toArray Q S n (tailL P ops.toArray Q n (ops.drop n)) n (Array.replicate ops.toArray.size false) a w.drew) : wpAny P .any ops.toArray Q ops.toArray.size (Array.replicate ops.toArray.size false) a w.drew := by
  have hn : n < ops.length := by simp only [tailOk, Bool.and_eq_true, decide_eq_true_eq] at hok; simpa using hok.1.1.2
  have inv0 : HeadInv .any ops.toArray n (Array.replicate ops.toArray.size false) :=
    ⟨by simp, fun j oj _ hl => (by rw [getD_replicate_false] at hl; cases hl), fun t _ ht => getD_in (by simpa using ht) (getD_replicate_false _ _)⟩
  have hdl : (ops.drop n).length = ops.toArray.size - n := by simp
  have H2 := any_of_headH (Q := Q) (g := ops.toArray.size - n) (fun s a' w' hL => by
    have := wpAny_of_seq (md := .any) (Q' := Q) (ops.drop n) n s a' w' (fun j => by simp [List.getElem?_drop]) hL.1 hL.2
    rwa [hdl] at this) _ _ _ _ (h hS inv0)
  rw [show n + (ops.toArray.size - n) = ops.toArray.size by simp; omega] at H2
  exact H2
theorem wpIn_round_tail_lit {S : World → Prop} {id : Nat} {a : Act} {w : World} {ops : List Oper} (n0 : Nat) (s0 : List Bool) (hs : Array.replicate ops.toArray.size false = s0.toArray)
    (hd : noDefer ops.toArray = true) (hm : P.follows .mixedOrders = true) (hok : tailOk .any ops.toArray n0 = true) (hQ : ¬ LetsOut Q) (hS : S w.drew)
    (h : S w.drew → walkT P .any ops.toArray Q S n0 (tailL P ops.toArray Q n0 (ops.drop n0)) n0 s0.toArray a w.drew) : (Code.region id ops.toArray true).wpIn (Fence.wide.inRound l) n P Q a w := by
  refine wpIn_region_any hm (wpAny_in_round hd hQ _ _ _ _ ?_)
  refine any_of_tail (S := S) n0 hok hS fun hS' => ?_
  rw [hs]
  exact h hS'
end
end Go.Proofs.YtpiimlmfcdjbbaaGreatDoor

/- Own rows of records; the records of lines. -/
namespace Go.Proofs.YtpiimlmfcdjbbaaGreatDoor
open Go.RowKit

/-- A row of records of its own. -/
abbrev RecsP (v : Value) (ys : List Rec) : Asn := Own 30 4 v ys.length (ys.flatMap rcEnc)
theorem rec_onesP (ys : List Rec) : ∀ u ∈ ys.flatMap rcEnc, u.oneCell' = true := by
  intro u hu
  obtain ⟨r, _, hr⟩ := List.mem_flatMap.1 hu
  simp only [rcEnc, List.mem_cons, List.not_mem_nil, or_false] at hr
  rcases hr with rfl | rfl | rfl | rfl <;> rfl
theorem flat4_lenP (ys : List Rec) : (ys.flatMap rcEnc).length = ys.length * 4 := by
  induction ys with
  | nil => rfl
  | cons y ys ih => rw [List.flatMap_cons, List.length_append, ih, List.length_cons]; simp [rcEnc]; omega
theorem Sp.recs_rowP {w0 w : World} {ps : List Asn} {i : Nat} {v : Value} {ys : List Rec} (h : Sp w0 w ps) (hi : ps[i]? = some (RecsP v ys)) (hg : ∀ y ∈ ys, rcOk y) :
    ∃ F, rcTy.row true w v ys F ∧ F.Nodup ∧ ∀ b ∈ F, w0.heap.size ≤ b := by
  obtain ⟨Fi, ⟨rfl, ho⟩, hF, -⟩ := h.upd hi
  obtain ⟨F, hr, hF2, _⟩ := Ty.row_of_owns (T := rcTy) (xs := ys) (G := []) ho rfl (by decide) (flat_all.2 ⟨rfl, hg, rfl⟩)
  refine ⟨F, hr, ?_, fun b hb => ?_⟩
  · rcases hF2 with rfl | ⟨g, _, _, _, rfl⟩ <;> simp
  · rcases hF2 with rfl | ⟨g, _, _, hg, rfl⟩
    · cases hb
    · refine hF b ?_
      rw [hg]; simpa using hb
theorem row_readP {v : Value} {xs : List Rec} {F : List Nat} {w : World} (h : rcTy.row true w v xs F) : rcTy.row false w v xs F := Ty.row_down h
theorem src_recP {w : World} {b : Nat} {r : Rec} (h0 : w.cell? ⟨b, 0, none⟩ = some (.string (ms r.name))) (h1 : w.cell? ⟨b, 1, none⟩ = some (.int .i64 r.sys)) (h2 : w.cell? ⟨b, 2, none⟩ = some (.int .i64 r.size)) (h3 : w.cell? ⟨b, 3, none⟩ = some (.int .i64 r.extra)) : Src w (some ⟨b, 0, none⟩) 1 4 (rcEnc r) :=
  .inr ⟨_, rfl, rfl, fun j u hj => by
    rw [add_none, Nat.zero_add]
    match j, hj with
    | 0, hj => simp [rcEnc] at hj; subst hj; exact h0
    | 1, hj => simp [rcEnc] at hj; subst hj; exact h1
    | 2, hj => simp [rcEnc] at hj; subst hj; exact h2
    | 3, hj => simp [rcEnc] at hj; subst hj; exact h3
    | j + 4, hj => simp [rcEnc] at hj⟩
theorem rec_oneP (r : Rec) : ∀ u ∈ rcEnc r, u.oneCell' = true := fun u hu => rec_onesP [r] u (by simpa using hu)
theorem split_part_lenB (b : Int) : ∀ l : List UInt8, ∀ p ∈ splitP b l, p.length ≤ l.length
  | [] => by simp [splitP]
  | d :: l => by
    have ih := split_part_lenB b l
    intro p hp
    unfold splitP at hp
    split at hp
    · rcases List.mem_cons.1 hp with rfl | hp
      · simp
      · have := ih p hp; simp only [List.length_cons]; omega
    · cases h : splitP b l with
      | nil => rw [h] at hp; simp at hp; subst hp; simp
      | cons q qs =>
        rw [h] at hp ih
        rcases List.mem_cons.1 hp with rfl | hp
        · have := ih q (by simp); simp only [List.length_cons]; omega
        · have := ih p (by simp [hp]); simp only [List.length_cons]; omega
theorem trimB_len (l : List UInt8) : (trimB l).length ≤ l.length := by
  unfold trimB Lib.trimSuffix
  split
  · rw [List.length_take]; omega
  · exact Nat.le_refl _
theorem sysB_in (c : UInt8) : 0 ≤ sysB c ∧ sysB c ≤ 4 := by
  unfold sysB
  simp only [Lib.indexByte]
  split
  · omega
  · split
    · split
      · omega
      · omega
    · omega
theorem numB_in {l : List UInt8} : -999999 ≤ (numB l).1 ∧ (numB l).1 ≤ 999999 := by
  unfold numB
  split
  · split
    · rename_i h
      simp only [Bool.and_eq_true, inB_true] at h
      exact h.1
    · decide
  · decide
theorem rdR_ok {p : List UInt8} {r : Rec} (h : rdR p = some r) (hp : p.length ≤ 2000000) : rcOk r := by
  unfold rdR at h
  have hl := split_part_lenB 32 p
  generalize splitP 32 p = ws at h hl
  unfold rdW at h
  split at h
  · rename_i a c u v
    split at h
    · cases h
      have h1 := hl a (by simp)
      have h2 := sysB_in c
      have h3 := @numB_in u
      have h4 := @numB_in v
      refine ⟨?_, ⟨?_, ?_⟩, ⟨?_, ?_⟩, ⟨?_, ?_⟩⟩ <;> dsimp only <;> omega
    · cases h
  · cases h
/-- The record of a line. -/
def lnR (x : Ln) : Option Rec := rdR (trimB (lnB x))
theorem lnR_ok {x : Ln} {r : Rec} (h : lnR x = some r) : rcOk r := by
  refine rdR_ok h ?_
  have h1 := trimB_len (lnB x)
  have h2 := x.property
  have h3 : (lnB x).length = x.val.size := bl_length _
  omega
theorem recs_ok : ∀ {pre : List Ln} {xs : List Rec}, pre.map lnR = xs.map some → ∀ r ∈ xs, rcOk r
  | [], [], _ => by simp
  | [], _ :: _, h => by cases h
  | _ :: _, [], h => by cases h
  | p :: pre, x :: xs, h => by
    simp only [List.map_cons, List.cons.injEq] at h
    intro r hr
    rcases List.mem_cons.1 hr with rfl | hr
    · exact lnR_ok h.1
    · exact recs_ok h.2 r hr
theorem lnR_words {x : Ln} {ws : List (List UInt8)} (h : splitP 32 (trimB (lnB x)) = ws) : lnR x = rdW ws := by unfold lnR rdR; rw [h]
theorem rdW_four {ws : List (List UInt8)} (h : ws.length ≠ 4) : rdW ws = none := by
  unfold rdW
  split
  · simp at h
  · rfl
theorem rdW_one {a b u v : List UInt8} (h : b.length ≠ 1) : rdW [a, b, u, v] = none := by
  unfold rdW
  split
  · rename_i e
    cases e
    simp at h
  · rfl
theorem rdW_no {a u v : List UInt8} {c : UInt8} (h : numsOk [u, v] = false) : rdW [a, [c], u, v] = none := by
  unfold numsOk at h
  simp only [List.all_cons, List.all_nil, Bool.and_true] at h
  simp only [rdW, h]; rfl
theorem rdW_yes {a u v : List UInt8} {c : UInt8} (h : numsOk [u, v] = true) : rdW [a, [c], u, v] = some ⟨a, sysB c, (numB u).1, (numB v).1⟩ := by
  unfold numsOk at h
  simp only [List.all_cons, List.all_nil, Bool.and_true] at h
  simp only [rdW, h]; rfl
end Go.Proofs.YtpiimlmfcdjbbaaGreatDoor
