/- Lemmas and contracts for a law, put together out of several texts: MemA MemB BtA OpenA MemF FlatC SepA MarkT HTail BookC. -/
import Derived.Test.YtahbepajeplcmaaDoorMg1
import Derived.Lib.QuietBelow
import Derived.BigQuiet
import Derived.Test.YtahbepajeplcmaaDoorProg
import Derived.WalkLawsBesides
import Derived.WalkSpells
import Derived.Test.YtahbepajeplcmaaDoorShelf
import Derived.Shelf.Strings.Builder1
import Derived.ProofKit
import Derived.OpenShut
import Derived.Deep.Slices
import Derived.OwnWalk
import Derived.Laws.OwnMore
import Derived.Maps.AppendAt
import Derived.Laws.BytesString
import Derived.Lib.Hide
import Derived.Deep.RegionHeld
import Derived.StillTail
import Derived.Deep.RegionHeld3
/- Memory facts: what a call has written; rows of ints. No program in sight. -/
namespace Go.Proofs.YtahbepajeplcmaaDoor
open Go.RowKit

/-- Of the blocks that were there none but those of F has turned. -/
structure Chg (F : List Nat) (w w' : World) : Prop where
  os : w'.os = w.os
  tape : w'.tape = w.tape
  output : w'.output = w.output
  size : w.heap.size ≤ w'.heap.size
  block : ∀ k, k < w.heap.size → k ∉ F → w'.heap[k]? = w.heap[k]?
theorem Chg.refl (F : List Nat) (w : World) : Chg F w w := ⟨rfl, rfl, rfl, Nat.le_refl _, fun _ _ _ => rfl⟩
theorem Chg.of_below {F : List Nat} {w w' : World} (h : Below w.heap.size w w') : Chg F w w' := ⟨h.os, h.tape, h.output, h.size, fun k hk _ => h.block k hk⟩
theorem Chg.mono {F G : List Nat} {w w' : World} (h : Chg F w w') (hs : ∀ b ∈ F, b ∈ G) : Chg G w w' := ⟨h.os, h.tape, h.output, h.size, fun k hk hn => h.block k hk fun hm => hn (hs k hm)⟩
theorem Chg.trans {F : List Nat} {a b c : World} (h : Chg F a b) (k : Chg F b c) : Chg F a c :=
  ⟨k.os.trans h.os, k.tape.trans h.tape, k.output.trans h.output, Nat.le_trans h.size k.size, fun i hi hn => (k.block i (Nat.lt_of_lt_of_le hi h.size) hn).trans (h.block i hi hn)⟩
theorem Chg.then {F : List Nat} {a b c : World} (h : Chg F a b) (k : Below b.heap.size b c) : Chg F a c := h.trans (.of_below k)
theorem Chg.alloc {F : List Nat} {a w : World} (h : Chg F a w) (o : Obj) : Chg F a (w.alloc o) := h.then (bal (bb _) o)
theorem Chg.set {F : List Nat} {a w : World} (h : Chg F a w) {p : Addr} (hp : p.block ∈ F) (u : Value) : Chg F a (w.setCell p u) :=
  h.trans ⟨rfl, rfl, rfl, by simp [World.setCell], fun k _ hn => Below.heap_setCell _ _ _ _ (fun e => hn (e ▸ hp))⟩
theorem Chg.below {F : List Nat} {B : Nat} {w w' : World} (h : Chg F w w') (hB : B ≤ w.heap.size) (hF : ∀ b ∈ F, B ≤ b) : Below B w w' :=
  ⟨h.os, h.tape, h.output, h.size, fun k hk => h.block k (Nat.lt_of_lt_of_le hk hB) fun hm => Nat.not_lt.2 (hF k hm) hk⟩
theorem Chg.row {α : Type} {T : Ty α} {F G : List Nat} {wr : Bool} {w w' : World} {v : Value} {xs : List α} (h : Chg F w w') (hr : T.row wr w v xs G) (hd : ∀ b ∈ G, b ∉ F) : T.row wr w' v xs G :=
  Ty.row_keep hr fun b hb => h.block b (Ty.row_lt hr b hb) (hd b hb)

theorem Ty.all_int {wr : Bool} {w : World} : ∀ {xs : List Int}, (∀ x ∈ xs, I64 x) → Ty.int.all wr w (xs.map (.int .i64)) xs []
  | [], _ => ⟨rfl, rfl⟩
  | x :: xs, h => ⟨[.int .i64 x], xs.map (.int .i64), [], [], rfl, rfl, ⟨rfl, h x List.mem_cons_self, rfl⟩, Ty.all_int fun y hy => h y (List.mem_cons_of_mem _ hy)⟩
theorem Ty.all_int_inv {wr : Bool} {w : World} : ∀ {cs : List Value} {xs : List Int} {F : List Nat}, Ty.int.all wr w cs xs F → cs = xs.map (.int .i64) ∧ F = [] ∧ ∀ x ∈ xs, I64 x
  | _, [], _, h => ⟨h.1, h.2, by simp⟩
  | _, x :: xs, _, h => by
    obtain ⟨c, d, F1, F2, rfl, rfl, ⟨rfl, hx, rfl⟩, h2⟩ := h
    obtain ⟨rfl, rfl, h3⟩ := Ty.all_int_inv h2
    exact ⟨rfl, rfl, fun y hy => by rcases List.mem_cons.1 hy with rfl | hy; exact hx; exact h3 y hy⟩
/-- A row of ints: nil or empty; or its cells. -/
theorem row_int {wr : Bool} {w : World} {v : Value} {xs : List Int} {F : List Nat} (h : Ty.int.row wr w v xs F) :
    ∃ a cap, v = .slice a xs.length cap ∧ xs.length ≤ cap ∧ cap ≤ 9223372036854775807 ∧ (∀ x ∈ xs, I64 x) ∧
      ((xs = [] ∧ F = []) ∨ (xs ≠ [] ∧ ∃ b off, a = some ⟨b, off, none⟩ ∧ F = [b] ∧ ∀ j (hj : j < xs.length), cellIs wr w b (off + j) (.int .i64 xs[j]))) := by
  obtain ⟨a, cap, cs, G, rfl, h1, h2, hall, h⟩ := h
  obtain ⟨rfl, rfl, hi⟩ := Ty.all_int_inv hall
  refine ⟨a, cap, rfl, h1, h2, hi, h.imp id ?_⟩
  rintro ⟨_, hne, b, off, rfl, rfl, hc⟩
  exact ⟨hne, b, off, rfl, rfl, fun j hj => by have := hc j (by simpa using hj); simpa using this⟩
theorem row_int_mk {wr : Bool} {w : World} {b off cap : Nat} {xs : List Int} (hi : ∀ x ∈ xs, I64 x) (h1 : xs.length ≤ cap) (h2 : cap ≤ 9223372036854775807) (hne : xs ≠ [])
    (hc : ∀ j (hj : j < xs.length), cellIs wr w b (off + j) (.int .i64 xs[j])) : Ty.int.row wr w (.slice (some ⟨b, off, none⟩) xs.length cap) xs [b] :=
  ⟨_, cap, xs.map (.int .i64), [], rfl, h1, h2, Ty.all_int hi, .inr ⟨by decide, hne, b, off, rfl, rfl, fun j hj => by simpa using hc j (by simpa using hj)⟩⟩

/-- m, m+1, ..: n numbers. -/
def marks (m : Int) (n : Nat) : List Int := (List.range n).map fun (j : Nat) => m + (j : Int)
theorem marks_length (m : Int) (n : Nat) : (marks m n).length = n := by simp [marks]
theorem marks_get (m : Int) (n j : Nat) (h : j < (marks m n).length) : (marks m n)[j] = m + j := by simp [marks]
theorem marks_i64 {m : Int} {n : Nat} (h0 : 0 ≤ m) (h1 : m + n ≤ 1000000000000000000) : ∀ x ∈ marks m n, I64 x := by
  intro x hx
  simp only [marks, List.mem_map, List.mem_range] at hx
  obtain ⟨j, hj, rfl⟩ := hx
  unfold I64; omega
end Go.Proofs.YtahbepajeplcmaaDoor

/- Contracts: rows of ints in the laws: compared, marked, held, copied. -/
namespace Go.Proofs.YtahbepajeplcmaaDoor
open Go.RowKit

/- left out: the seat has no laws.eqIntS -/

/-- What has been marked so far. -/
def MarkRel (b off : Nat) (m : Int) (xs : List Int) (k : Nat) (w wr : World) : Prop :=
  (∀ j (hj : j < xs.length), cellIs true wr b (off + j) (.int .i64 (if j < k then m + j else xs[j]))) ∧ Chg [b] w wr
theorem MarkRel.step {b off : Nat} {m : Int} {xs : List Int} {k : Nat} {w wr : World} (h : MarkRel b off m xs k w wr) (hk : k < xs.length) : MarkRel b off m xs (k + 1) w (wr.setCell ⟨b, off + k, none⟩ (.int .i64 (m + k))) := by
  refine ⟨fun j hj => ?_, h.2.set (by simp) _⟩
  have hc := h.1 j hj
  by_cases e : j = k
  · subst e
    refine ⟨?_, fun _ => ?_⟩
    · rw [if_pos (by omega)]; exact World.cell?_setCell_same' _ _ _ (by rw [hc.1]; rfl)
    · rw [World.frozen?_setCell]; exact hc.2 rfl
  · refine ⟨?_, fun _ => ?_⟩
    · rw [World.cell?_setCell_other wr _ _ _ (by simp only [ne_eq, Addr.mk.injEq]; omega)]
      rw [hc.1]
      by_cases h1 : j < k
      · rw [if_pos h1, if_pos (by omega)]
      · rw [if_neg h1, if_neg (by omega)]
    · rw [World.frozen?_setCell]; exact hc.2 rfl

def MarkPost {α : Type} (T : Ty α) (w : World) (v : Value) (k : Int) (ys : List α) (F : List Nat) (e : Ending) (w' : World) : Prop :=
  e = .returned (.int .i64 k) ∧ T.row true w' v ys F ∧ Chg F w w'

/- left out: the seat has no laws.markIntS -/

/-- What 'held' gives: past the last mark, or -1. -/
def heldOf (xs : List Int) (m : Int) : Int := if xs = marks m xs.length then m + xs.length else -1
theorem marks_snoc (m : Int) (n : Nat) : marks m (n + 1) = marks m n ++ [m + n] := by simp [marks, List.range_succ]

/- left out: the seat has no laws.heldIntS -/

/-- What 'to' gives: a row of its own with the same data. -/
def OwnPost {α : Type} (T : Ty α) (w : World) (xs : List α) (e : Ending) (w' : World) : Prop :=
  ∃ v F, e = .returned v ∧ T.row true w' v xs F ∧ F.Nodup ∧ (∀ b ∈ F, w.heap.size ≤ b) ∧ Below w.heap.size w w'

theorem infoInt : (Tryd.prog.info? 3).map (fun i => (i.zero, i.size, i.bytes)) = some (some (.int .i64 0), 1, 8) := by kernel_rfl

/-- What has been copied so far. -/
def CopyRel (xs : List Int) (k : Nat) (w wr : World) : Prop :=
  (∀ j (hj : j < xs.length), cellIs true wr w.heap.size (0 + j) (.int .i64 (if j < k then xs[j] else 0))) ∧ Below w.heap.size w wr
theorem CopyRel.step {xs : List Int} {k : Nat} {w wr : World} (h : CopyRel xs k w wr) (hk : k < xs.length) : CopyRel xs (k + 1) w (wr.setCell ⟨w.heap.size, k, none⟩ (.int .i64 xs[k])) := by
  refine ⟨fun j hj => ?_, h.2.setCell (by simp) _⟩
  have hc := h.1 j hj
  by_cases e : j = k
  · subst e
    refine ⟨?_, fun _ => ?_⟩
    · rw [if_pos (by omega), Nat.zero_add]; exact World.cell?_setCell_same' _ _ _ (by have := hc.1; rw [Nat.zero_add] at this; rw [this]; rfl)
    · rw [World.frozen?_setCell]; exact hc.2 rfl
  · refine ⟨?_, fun _ => ?_⟩
    · rw [World.cell?_setCell_other wr _ _ _ (by simp only [ne_eq, Addr.mk.injEq]; omega)]
      rw [hc.1]
      by_cases h1 : j < k
      · rw [if_pos h1, if_pos (by omega)]
      · rw [if_neg h1, if_neg (by omega)]
    · rw [World.frozen?_setCell]; exact hc.2 rfl

theorem hown_cell {w : World} {g n : Nat} {cur : Array Value} {e : TypeId} {fr : Nat × Nat} {cs : List Value} (hh : w.heap[g]? = some (.cells cur e fr)) (ht : cur.toList.take n = cs) {j : Nat} (hj : j < n) : w.cell? ⟨g, j, none⟩ = cs[j]? := by
  subst ht
  simp [World.cell?, hh, hj]

/- left out: the seat has no laws.toIntS -/
end Go.Proofs.YtahbepajeplcmaaDoor

/- Contracts: strings.Builder, as this program has it. -/
namespace Go.Proofs.YtahbepajeplcmaaDoor
open Go.RowKit

theorem sizeBld : (Tryd.prog.info? 74).map (·.size) = some 2 := by kernel_rfl
theorem liesBld : liesAt Tryd.prog Tryd.prog.depth 74 (2 / Tryd.prog.cellsOf 74) 0 74 1 = true := by kernel_rfl
theorem infoU8 : (Tryd.prog.info? 5).map (fun i => (i.zero, i.size, i.bytes)) = some (some (.int .u8 0), 1, 1) := by kernel_rfl
/-- A builder that holds bytes. -/
abbrev Bld (w0 : World) (b : Nat) (l : List UInt8) (w : World) : Prop := Lib.IsBuilder 74 5 w0.heap.size b (Lib.byteCells l) w

set_option maxHeartbeats 1000000 in
set_option maxRecDepth 100000 in
theorem copyCheck_used (b : Nat) (w : World) (h0 : w.cell? ⟨b, 0, none⟩ = some (.pointer (some ⟨b, 0, none⟩))) :
    Calls Tryd.prog 66 #[.pointer (some ⟨b, 0, none⟩)] w fun e w' => e = .returned (.tuple #[]) ∧ w' = w := by
  obtain ⟨j, hj, _⟩ := Option.map_eq_some_iff.1 sizeBld
  go_enter Tryd.func66, Tryd.ntmps66
  go_wp2
  rw [Lib.run_neq_ptr_same w _ Tryd.underlying72 hj]
  go_wp2
  exact bodyPost_end (v := .tuple #[]) (by simp [results, Tryd.results66, go_sem]) rfl ⟨rfl, rfl⟩

set_option maxHeartbeats 1000000 in
set_option maxRecDepth 100000 in
theorem copyCheck_fresh (b : Nat) (w : World) (h0 : w.cell? ⟨b, 0, none⟩ = some (.pointer none)) (hsh : w.shape? b = some (74, 2)) (hfz : w.frozen? ⟨b, 0, none⟩ = false) :
    Calls Tryd.prog 66 #[.pointer (some ⟨b, 0, none⟩)] w fun e w' => e = .returned (.tuple #[]) ∧ w' = w.setCell ⟨b, 0, none⟩ (.pointer (some ⟨b, 0, none⟩)) := by
  obtain ⟨j, hj, hjs⟩ := Option.map_eq_some_iff.1 sizeBld
  go_enter Tryd.func66, Tryd.ntmps66
  go_wp2
  rw [Lib.run_to_unsafe w ⟨b, 0, none⟩ Tryd.underlying72 Tryd.underlying94 hj (by rw [hjs]; decide) hsh (Nat.zero_lt_succ 1)]
  simp only [Result.andThen]
  rw [Oper.upon_value]
  go_wp2
  rw [run_callFunc_extern Tryd.func78 (by kernel_rfl) (by kernel_rfl) (by kernel_rfl) (e := Extern.AbiNoEscape.same) (by kernel_rfl)]
  rw [Lib.run_noEscape]
  simp only [Result.andThen]
  rw [Oper.upon_value]
  go_wp2
  rw [Lib.run_from_unsafe w ⟨b, 0, none⟩ Tryd.underlying94 Tryd.underlying72 hj hsh liesBld]
  simp only [Result.andThen]
  rw [Oper.upon_value]
  go_wp2
  exact bodyPost_end (v := .tuple #[]) (by simp [results, Tryd.results66, go_sem]) rfl ⟨rfl, rfl⟩

theorem copyCheck_any (B b : Nat) (bs : List Value) (w : World) (h : Lib.IsBuilder 74 5 B b bs w) :
    Calls Tryd.prog 66 #[.pointer (some ⟨b, 0, none⟩)] w fun e w' => e = .returned (.tuple #[]) ∧ (Lib.BuilderAt 74 5 B b (.pointer (some ⟨b, 0, none⟩)) bs w' ∧ Below B w w') := by
  rcases h with h | h
  · refine (copyCheck_fresh b w h.cell0 h.shape h.frozen0).mono ?_
    rintro e w' ⟨rfl, rfl⟩
    exact ⟨rfl, h.used _, (Below.refl B w).setCell (p := ⟨b, 0, none⟩) h.1 _⟩
  · refine (copyCheck_used b w h.cell0).mono ?_
    rintro e w' ⟨rfl, rfl⟩
    exact ⟨rfl, h, Below.refl B _⟩

set_option maxHeartbeats 2000000 in
set_option maxRecDepth 100000 in
theorem writeString_any (B b : Nat) (bs : List Value) (s : ByteArray) (w : World) (h : Lib.IsBuilder 74 5 B b bs w) (hlen : bs.length + s.size ≤ 140737488355328) (hBw : B ≤ w.heap.size) :
    Calls Tryd.prog 49 #[.pointer (some ⟨b, 0, none⟩), .string s] w fun e w' => e = .returned (.tuple #[.int .i64 s.size, .nilIface]) ∧ (Lib.BuilderAt 74 5 B b (.pointer (some ⟨b, 0, none⟩)) (bs ++ Lib.strCells s) w' ∧ Below B w w') := by
  obtain ⟨i0, hi, hz0, hz1, hz2⟩ := info_parts infoU8
  go_enter Tryd.func49, Tryd.ntmps49
  go_wp2_with (go_at_call 66; refine (copyCheck_any B b bs _ h).mono ?_)
  rintro e w1 ⟨rfl, h1, hb1⟩
  obtain ⟨hB, v, hbk, hown, hne⟩ := h1
  have c0 : w1.cell? ⟨b, 0, none⟩ = some (.pointer (some ⟨b, 0, none⟩)) := by rw [Lib.cell_of_heap hbk]; rfl
  have c1 : w1.cell? ⟨b, 1, none⟩ = some v := by rw [Lib.cell_of_heap hbk]; rfl
  go_wp2_with (at_builtin; refine Lib.wpList_append_own_string _ rfl _ _ 69 9 rfl B 5 i0 Tryd.underlying69 Tryd.underlying9 hi hz0 hz1 hz2 _ _ _ rfl hown s rfl ?c3 ?c4 ?c5 ?_)
  case c3 => unfold maxLen; omega
  case c4 => omega
  case c5 => have := hb1.size; omega
  intro v' w2 hown' hgrow _
  have hlt : b < w1.heap.size := by
    rcases Nat.lt_or_ge b w1.heap.size with h' | h'
    · exact h'
    · simp [Array.getElem?_eq_none h'] at hbk
  have hb2 : w2.heap[b]? = some (.cells #[.pointer (some ⟨b, 0, none⟩), v] 74 (0, 0)) := by
    rw [hgrow.block b hlt (fun e => hne e.symm)]
    exact hbk
  have d0 : w2.cell? ⟨b, 0, none⟩ = some (.pointer (some ⟨b, 0, none⟩)) := by rw [Lib.cell_of_heap hb2]; rfl
  have d1 : w2.cell? ⟨b, 1, none⟩ = some v := by rw [Lib.cell_of_heap hb2]; rfl
  have f1 : w2.frozen? ⟨b, 1, none⟩ = false := Lib.frozen_of_heap hb2 1
  obtain ⟨ao, n', cap, rfl⟩ : ∃ ao n' cap, v' = .slice ao n' cap := by
    rcases hown'.2 with ⟨hv, _⟩ | ⟨g, cap, cur, hv, _⟩
    · exact ⟨_, _, _, hv⟩
    · exact ⟨_, _, _, hv⟩
  go_wp2
  go_ret2
  refine ⟨rfl, ?_, ?_⟩
  · exact Lib.BuilderAt.put (T := 74) (e := 5) hB hb2 (bs' := bs ++ Lib.strCells s) (by simpa [Lib.strCells_length] using hown') (by decide)
  · exact (hb1.grown hgrow (by have := hb1.size; omega) (fun k hk => (hown.lt k hk).1)).setCell (p := ⟨b, 1, none⟩) hB _
end Go.Proofs.YtahbepajeplcmaaDoor

/- From the form's reading of an argument to 'Ty.rep'. No program in sight. -/
namespace Go.Proofs.YtahbepajeplcmaaDoor
open Go.RowKit Go.Deep

/-- Whatever reads as data at type t holds data by T. -/
def Opens (P : Program) (t : TypeId) {α : Type} (T : Ty α) : Prop :=
  ∀ (H : Type) (enc : TypeId × Value → H) (w : World) (spare : Nat → Bool) (held : Bool) (fuel : Nat) (cs : List Value) (y : DataW H × List MemPlace),
    DataW.trod enc P w 0 spare held fuel t cs = some y → ∃ x F, T.rep false w cs x F

theorem Opens.int {P : Program} {t : TypeId} (ht : P.underlying t = some (.int .i64)) : Opens P t Ty.int := by
  intro H enc w spare held fuel cs y h
  obtain ⟨n, rfl, _, hw⟩ := DataW.trod_int ht h
  have := bounds_i64 hw
  exact ⟨n, [], rfl, by unfold I64; omega, rfl⟩
theorem Opens.bool {P : Program} {t : TypeId} (ht : P.underlying t = some .bool) : Opens P t Ty.bool := by
  intro H enc w spare held fuel cs y h
  obtain ⟨b, rfl, _⟩ := DataW.trod_bool ht h
  exact ⟨b, [], rfl, rfl⟩
theorem Opens.str {P : Program} {t : TypeId} (ht : P.underlying t = some .string) : Opens P t Ty.str := by
  intro H enc w spare held fuel cs y h
  obtain ⟨s, rfl, _, hw⟩ := DataW.trod_string ht h
  unfold maxLen at hw
  exact ⟨s, [], rfl, by omega, rfl⟩

/-- No field. -/
def Ty.unit : Ty Unit where
  size := 0
  rep _ _ cs _ F := cs = [] ∧ F = []
  len h := by obtain ⟨rfl, _⟩ := h; rfl
  lt h := by obtain ⟨_, rfl⟩ := h; simp
  keep h _ := h
  down h := h

/-- The fields from one place on. -/
def OpensF (P : Program) : List Field → Nat → {α : Type} → Ty α → Prop
  | fs, off, _, T => ∀ (H : Type) (enc : TypeId × Value → H) (w : World) (spare : Nat → Bool) (held : Bool) (fuel : Nat) (cs : List Value),
      cs.length = off + T.size → (∀ f ∈ fs, ∃ y : DataW H × List MemPlace, DataW.trod enc P w 0 spare held fuel f.type ((cs.drop f.offset).take (P.cellsOf f.type)) = some y) → ∃ x F, T.rep false w (cs.drop off) x F
theorem OpensF.nil {P : Program} {off : Nat} : OpensF P [] off Ty.unit := by
  intro H enc w spare held fuel cs hl _
  exact ⟨(), [], List.drop_of_length_le (by rw [hl]; exact Nat.le_refl _), rfl⟩
theorem OpensF.cons {P : Program} {f : Field} {fs : List Field} {off : Nat} {α β : Type} {T : Ty α} {U : Ty β} (ho : f.offset = off) (hs : P.cellsOf f.type = T.size) (hT : Opens P f.type T) (hU : OpensF P fs (off + T.size) U) :
    OpensF P (f :: fs) off (T.pair U) := by
  intro H enc w spare held fuel cs hl hf
  obtain ⟨y, hy⟩ := hf f List.mem_cons_self
  obtain ⟨x, F, hx⟩ := hT H enc w spare held fuel _ y hy
  obtain ⟨z, G, hz⟩ := hU H enc w spare held fuel cs (by rw [hl]; exact (Nat.add_assoc _ _ _).symm) (fun g hg => hf g (List.mem_cons_of_mem _ hg))
  refine ⟨(x, z), F ++ G, _, _, F, G, ?_, rfl, hx, hz⟩
  rw [ho, hs, ← List.drop_drop, List.take_append_drop]
theorem Opens.struct {P : Program} {t : TypeId} {fs : Array Field} {α : Type} {T : Ty α} (ht : P.underlying t = some (.struct fs)) (hC : P.cellsOf t = T.size) (hf : OpensF P fs.toList 0 T) : Opens P t T := by
  intro H enc w spare held fuel cs y h
  obtain ⟨xs, n, _, rfl, hl, hlen, hxs⟩ := DataW.trod_struct ht h
  have := hf H enc w spare held n cs (by rw [hl, hC]; omega) (fun f hm => by
    obtain ⟨i, hi, e⟩ := List.getElem_of_mem hm
    have hi' : i < xs.length := by rw [hlen]; simpa using hi
    exact ⟨xs[i], by
      have h1 := hxs i f (by simpa [e] using (Array.getElem?_eq_getElem (xs := fs) (by simpa using hi)).trans (congrArg some (by simpa using e)))
      simpa [hi'] using h1⟩)
  simpa using this
theorem Opens.as {P : Program} {t : TypeId} {α β : Type} {T : Ty α} (g : β → α) (f : α → β) (hg : ∀ x, g (f x) = x) (h : Opens P t T) : Opens P t (T.as g) := by
  intro H enc w spare held fuel cs y hy
  obtain ⟨x, F, hx⟩ := h H enc w spare held fuel cs y hy
  exact ⟨f x, F, by show T.rep false w cs (g (f x)) F; rw [hg]; exact hx⟩

theorem add_spot {w : World} {a : Addr} {j : Nat} {v : Value} (h : w.cell? (a.add j) = some v) (hz : j = 0 ∨ 0 < j) : a.add j = ⟨a.block, a.off + j, none⟩ := by
  obtain ⟨b, o, s⟩ := a
  unfold Addr.add at *
  by_cases e : j = 0
  · subst e
    rw [if_pos rfl] at *
    cases s with
    | none => rfl
    | some x => simp [World.cell?] at h; split at h <;> simp at h
  · rw [if_neg e]

/-- Elements that can be read, one behind the other. -/
theorem Opens.elems {P : Program} {e : TypeId} {α : Type} {T : Ty α} (hC : P.cellsOf e = T.size) (hT : Opens P e T) {H : Type} {enc : TypeId × Value → H} {w : World} {spare : Nat → Bool} {held : Bool} {n : Nat} {a : Addr} :
    ∀ (len : Nat), (∀ i, i < len → ∃ cs' y, w.cells? 0 (a.add (i * P.cellsOf e)) (P.cellsOf e) = some cs' ∧ DataW.trod enc P w 0 spare held n e cs' = some y) →
      ∃ (xs : List α) (cs : List Value) (G : List Nat), xs.length = len ∧ T.all false w cs xs G ∧ ∀ j (hj : j < cs.length), w.cell? ⟨a.block, a.off + j, none⟩ = some cs[j]
  | 0, _ => ⟨[], [], [], rfl, ⟨rfl, rfl⟩, by simp⟩
  | len + 1, h => by
    obtain ⟨xs, cs, G, hl, hall, hc⟩ := Opens.elems hC hT len (fun i hi => h i (by omega))
    obtain ⟨cs', y, h1, h2⟩ := h len (by omega)
    obtain ⟨_, hcl, hat⟩ := World.cells?_some h1
    obtain ⟨x, F, hx⟩ := hT H enc w spare held n cs' y h2
    have hlen := Ty.all_len hall
    refine ⟨xs ++ [x], cs ++ cs', G ++ F, by simp [hl], Ty.all_snoc hall hx, fun j hj => ?_⟩
    by_cases hj1 : j < cs.length
    · rw [List.getElem_append_left hj1]; exact hc j hj1
    · rw [List.getElem_append_right (by omega)]
      have hj2 : j - cs.length < cs'.length := by rw [List.length_append] at hj; omega
      have h3 := hat (j - cs.length) (by omega)
      rw [add_add] at h3
      have e1 : len * P.cellsOf e + (j - cs.length) = j := by rw [hC, ← hl, ← hlen]; omega
      rw [e1, List.getElem?_eq_getElem hj2] at h3
      rw [← add_spot h3 (by omega)]; exact h3
theorem Opens.slice {P : Program} {t e : TypeId} {α : Type} {T : Ty α} (ht : P.underlying t = some (.slice e)) (hC : P.cellsOf e = T.size) (hs : 0 < T.size) (hT : Opens P e T) : Opens P t T.slice := by
  intro H enc w spare held fuel cs y h
  rcases open_slice ht h with ⟨rfl, _⟩ | ⟨a, len, cap, m, n, D, Pl, rfl, _, hl, hm, hmm, _, hi⟩
  · exact ⟨[], [], _, rfl, Ty.row_nil _ _ _ _ _ (by decide)⟩
  · have hle : len ≤ m := by rw [hmm]; split <;> omega
    obtain ⟨xs, ccs, G, hxl, hall, hc⟩ := Opens.elems (P := P) (e := e) (a := a) hC hT len (fun i hlt => by
      obtain ⟨cs', h1, h2⟩ := hi i (by omega)
      exact ⟨cs', _, h1, h2⟩)
    unfold maxLen at hm
    by_cases h0 : xs = []
    · subst h0
      obtain rfl : len = 0 := by simpa using hxl.symm
      exact ⟨[], [], _, rfl, Ty.row_nil _ _ _ _ _ (by omega)⟩
    · have hccs : ccs.length = xs.length * T.size := Ty.all_len hall
      have hp : 0 < xs.length := List.length_pos_iff.2 h0
      have h00 : 0 < ccs.length := by rw [hccs]; exact Nat.mul_pos hp hs
      have ha : a = ⟨a.block, a.off, none⟩ := by
        obtain ⟨cs', h1, _⟩ := hi 0 (by omega)
        obtain ⟨_, hcl, hat⟩ := World.cells?_some h1
        have h3 := hat 0 (by rw [hC]; exact hs)
        rw [add_add, List.getElem?_eq_getElem (by rw [hcl, hC]; exact hs)] at h3
        have := add_spot h3 (by omega)
        simpa [Addr.add] using this
      exact ⟨xs, a.block :: G, _, rfl, some a, cap, ccs, G, by rw [hxl], by omega, by omega, hall, .inr ⟨hs, h0, a.block, a.off, by rw [← ha], rfl, fun j hj => ⟨hc j hj, fun e => by cases e⟩⟩⟩
end Go.Proofs.YtahbepajeplcmaaDoor

/- Memory facts: elements of a fixed number of cells that hold no references. No program in sight. -/
namespace Go.Proofs.YtahbepajeplcmaaDoor
open Go.RowKit

/-- Data in a fixed number of cells, without references. -/
def Ty.flat {α : Type} (n : Nat) (enc : α → List Value) (good : α → Prop) (hn : ∀ x, (enc x).length = n) : Ty α where
  size := n
  rep _ _ cs x F := cs = enc x ∧ good x ∧ F = []
  len h := by obtain ⟨rfl, _, _⟩ := h; exact hn _
  lt h := by obtain ⟨_, _, rfl⟩ := h; simp
  keep h _ := h
  down h := h

section
variable {α : Type} {n : Nat} {enc : α → List Value} {good : α → Prop} {hn : ∀ x, (enc x).length = n}
theorem flat_all {wr : Bool} {w : World} : ∀ {xs : List α} {cs : List Value} {F : List Nat}, (Ty.flat n enc good hn).all wr w cs xs F ↔ cs = xs.flatMap enc ∧ (∀ x ∈ xs, good x) ∧ F = []
  | [], cs, F => by simp [Ty.all]
  | x :: xs, cs, F => by
    constructor
    · rintro ⟨c, d, F1, F2, rfl, rfl, ⟨rfl, hg, rfl⟩, h2⟩
      obtain ⟨rfl, h3, rfl⟩ := flat_all.1 h2
      exact ⟨rfl, fun y hy => by rcases List.mem_cons.1 hy with rfl | hy; exact hg; exact h3 y hy, rfl⟩
    · rintro ⟨rfl, h, rfl⟩
      exact ⟨enc x, xs.flatMap enc, [], [], rfl, rfl, ⟨rfl, h x List.mem_cons_self, rfl⟩, flat_all.2 ⟨rfl, fun y hy => h y (List.mem_cons_of_mem _ hy), rfl⟩⟩
theorem flat_len (hn : ∀ x, (enc x).length = n) (xs : List α) : (xs.flatMap enc).length = xs.length * n := by
  induction xs with
  | nil => simp
  | cons x xs ih => rw [List.flatMap_cons, List.length_append, ih, hn, List.length_cons, Nat.add_mul]; omega
theorem flat_get (hn : ∀ x, (enc x).length = n) : ∀ (xs : List α) (j : Nat) (hj : j < xs.length) (i : Nat), i < n → (xs.flatMap enc)[j * n + i]? = (enc xs[j])[i]?
  | x :: xs, 0, _, i, hi => by
    rw [List.flatMap_cons, Nat.zero_mul, Nat.zero_add, List.getElem?_append_left (by rw [hn]; exact hi)]; rfl
  | x :: xs, j + 1, hj, i, hi => by
    rw [List.flatMap_cons, List.getElem?_append_right (by rw [hn, Nat.add_mul]; omega), hn]
    rw [show (j + 1) * n + i - n = j * n + i by rw [Nat.add_mul]; omega]
    exact flat_get hn xs j (by simpa using hj) i hi
theorem flat_at (hn : ∀ x, (enc x).length = n) (xs : List α) (q : Nat) (hq : q < xs.length * n) : ∃ j i, j < xs.length ∧ i < n ∧ q = j * n + i := by
  have h0 : 0 < n := by rcases Nat.eq_zero_or_pos n with h | h; (subst h; simp at hq); exact h
  refine ⟨q / n, q % n, (Nat.div_lt_iff_lt_mul h0).2 hq, Nat.mod_lt _ h0, ?_⟩
  rw [Nat.mul_comm]; exact (Nat.div_add_mod q n).symm

/-- A row of flat elements: nil or empty; or its cells. -/
theorem row_flat {wr : Bool} {w : World} {v : Value} {xs : List α} {F : List Nat} (h : (Ty.flat n enc good hn).row wr w v xs F) :
    ∃ a cap, v = .slice a xs.length cap ∧ xs.length ≤ cap ∧ cap ≤ 9223372036854775807 ∧ (∀ x ∈ xs, good x) ∧
      ((xs = [] ∧ F = []) ∨ (0 < n ∧ xs ≠ [] ∧ ∃ b off, a = some ⟨b, off, none⟩ ∧ F = [b] ∧ ∀ j (hj : j < xs.length) i (u : Value), (enc xs[j])[i]? = some u → cellIs wr w b (off + (j * n + i)) u)) := by
  obtain ⟨a, cap, cs, G, rfl, h1, h2, hall, h⟩ := h
  obtain ⟨rfl, hg, rfl⟩ := flat_all.1 hall
  refine ⟨a, cap, rfl, h1, h2, hg, h.imp id ?_⟩
  rintro ⟨h0, hne, b, off, rfl, rfl, hc⟩
  refine ⟨h0, hne, b, off, rfl, rfl, fun j hj i u hu => ?_⟩
  have hi : i < n := by have := (List.getElem?_eq_some_iff.1 hu).1; rwa [hn] at this
  have hlt : j * n + i < (xs.flatMap enc).length := by
    rw [flat_len hn]
    have : (j + 1) * n ≤ xs.length * n := Nat.mul_le_mul_right n hj
    rw [Nat.add_mul] at this; omega
  have h3 := hc (j * n + i) hlt
  have h4 := flat_get hn xs j hj i hi
  rw [List.getElem?_eq_getElem hlt, hu] at h4
  rw [Option.some.inj h4] at h3
  exact h3
theorem row_flat_mk {wr : Bool} {w : World} {b off cap : Nat} {xs : List α} (hg : ∀ x ∈ xs, good x) (h1 : xs.length ≤ cap) (h2 : cap ≤ 9223372036854775807) (hne : xs ≠ []) (h0 : 0 < n)
    (hc : ∀ j (hj : j < xs.length) i (u : Value), (enc xs[j])[i]? = some u → cellIs wr w b (off + (j * n + i)) u) : (Ty.flat n enc good hn).row wr w (.slice (some ⟨b, off, none⟩) xs.length cap) xs [b] := by
  refine ⟨_, cap, xs.flatMap enc, [], rfl, h1, h2, flat_all.2 ⟨rfl, hg, rfl⟩, .inr ⟨h0, hne, b, off, rfl, rfl, fun q hq => ?_⟩⟩
  obtain ⟨j, i, hj, hi, rfl⟩ := flat_at hn xs q (by rw [flat_len hn] at hq; exact hq)
  refine hc j hj i _ ?_
  rw [← flat_get hn xs j hj i hi, List.getElem?_eq_getElem hq]
/-- The same cells told by another opening. -/
theorem Opens.flat {P : Program} {t : TypeId} {β : Type} {T : Ty β} (h : Opens P t T) (f : β → α) (hf : ∀ w cs x F, T.rep false w cs x F → cs = enc (f x) ∧ good (f x) ∧ F = []) : Opens P t (Ty.flat n enc good hn) := by
  intro H ec w spare held fuel cs y hy
  obtain ⟨x, F, hx⟩ := h H ec w spare held fuel cs y hy
  exact ⟨f x, F, hf w cs x F hx⟩
end
end Go.Proofs.YtahbepajeplcmaaDoor

/- Memory facts: rows of flat elements that are made and then filled, element by element. No program in sight. -/
namespace Go.Proofs.YtahbepajeplcmaaDoor
open Go.RowKit

/-- The elements f 0, f 1, .. lie in block B, one behind the other, and may be written. -/
def FlatAt {α : Type} (enc : α → List Value) (n B len : Nat) (f : Nat → α) (w : World) : Prop := ∀ j, j < len → ∀ (i : Nat) (u : Value), (enc (f j))[i]? = some u → cellIs true w B (j * n + i) u

section
variable {α : Type} {enc : α → List Value} {n B len : Nat} {f : Nat → α} {w w' : World}
theorem FlatAt.grow (h : FlatAt enc n B len f w) (hb : Below w.heap.size w w') : FlatAt enc n B len f w' := fun j hj i u hu =>
  (h j hj i u hu).keep (hb.block B (h j hj i u hu).lt)
theorem FlatAt.mono {len' : Nat} {g : Nat → α} (h : FlatAt enc n B len f w) (hl : len' ≤ len) (hg : ∀ j, j < len' → g j = f j) : FlatAt enc n B len' g w := fun j hj i u hu =>
  h j (by omega) i u (by rw [← hg j hj]; exact hu)
theorem FlatAt.cell (h : FlatAt enc n B len f w) {j : Nat} (hj : j < len) {i : Nat} {u : Value} (hu : (enc (f j))[i]? = some u) : w.cell? ⟨B, j * n + i, none⟩ = some u := (h j hj i u hu).1
theorem FlatAt.frozen (h : FlatAt enc n B len f w) {j : Nat} (hj : j < len) {i : Nat} {u : Value} (hu : (enc (f j))[i]? = some u) : w.frozen? ⟨B, j * n + i, none⟩ = false := (h j hj i u hu).2 rfl
/-- Behind make: every element is the zero value. -/
theorem FlatAt.made {base : Nat} {e : TypeId} {cap : Nat} {z : α} {zc : Array Value} (hz : enc z = zc.toList) (hn : zc.size = n) (h : w.ownsRow base e n (.slice (some ⟨B, 0, none⟩) len cap) len (madeCells zc (len * n)).toList) : FlatAt enc n B len (fun _ => z) w := by
  intro j hj i u hu
  have hi : i < n := by
    have := (List.getElem?_eq_some_iff.1 hu).1
    rw [hz, Array.length_toList, hn] at this
    exact this
  have hlt : j * n + i < len * n := by
    have : (j + 1) * n ≤ len * n := Nat.mul_le_mul_right n hj
    rw [Nat.add_mul] at this; omega
  refine ⟨?_, fun _ => h.frozenAt _⟩
  rw [h.cellAt _ hlt, Array.getElem?_toList]
  have hm : (j * n + i) % n = i := by rw [Nat.mul_comm, Nat.mul_add_mod, Nat.mod_eq_of_lt hi]
  rw [hz, Array.getElem?_toList] at hu
  unfold madeCells
  rw [Array.getElem?_map, Array.getElem?_range, if_pos hlt]
  simp only [Option.map_some, hn, hm]
  rw [getElem!_def, hu]
/-- The finished row. -/
theorem FlatAt.row {good : α → Prop} {hne : ∀ x, (enc x).length = n} {xs : List α} {z : α} {cap : Nat} (h : FlatAt enc n B xs.length (fun j => xs.getD j z) w) (hg : ∀ x ∈ xs, good x) (h1 : xs.length ≤ cap) (h2 : cap ≤ 9223372036854775807) (hx : xs ≠ []) (h0 : 0 < n) :
    (Ty.flat n enc good hne).row true w (.slice (some ⟨B, 0, none⟩) xs.length cap) xs [B] := by
  refine row_flat_mk hg h1 h2 hx h0 fun j hj i u hu => ?_
  rw [Nat.zero_add]
  refine h j hj i u ?_
  show (enc (xs.getD j z))[i]? = some u
  rw [List.getD_eq_getElem?_getD, List.getElem?_eq_getElem hj]
  exact hu
theorem set_ne' (w : World) {b o o' : Nat} {u : Value} (h : o ≠ o') : (w.setCell ⟨b, o, none⟩ u).cell? ⟨b, o', none⟩ = w.cell? ⟨b, o', none⟩ := World.cell?_setCell_other w _ _ _ (by simp only [ne_eq, Addr.mk.injEq]; omega)
theorem set_eq' (w : World) {b o : Nat} {u v : Value} (h : w.cell? ⟨b, o, none⟩ = some v) : (w.setCell ⟨b, o, none⟩ u).cell? ⟨b, o, none⟩ = some u := World.cell?_setCell_same' _ _ _ (by rw [h]; rfl)
/-- An element of one cell is stored. -/
theorem FlatAt.set1 {f : Nat → α} (hn : ∀ x, (enc x).length = 1) (h : FlatAt enc 1 B len f w) {k : Nat} {x : α} {u0 : Value} (he : enc x = [u0]) :
    FlatAt enc 1 B len (fun j => if j = k then x else f j) (w.setCell ⟨B, k, none⟩ u0) := by
  intro j hj i u hu
  have hi : i < 1 := by have := (List.getElem?_eq_some_iff.1 hu).1; rwa [hn] at this
  obtain rfl : i = 0 := by omega
  have hold : ∃ v, (enc (f j))[0]? = some v := ⟨_, List.getElem?_eq_getElem (by rw [hn]; decide)⟩
  obtain ⟨v, hv⟩ := hold
  have hc := h j hj 0 v hv
  refine ⟨?_, fun _ => by rw [World.frozen?_setCell]; exact hc.2 rfl⟩
  by_cases e : j = k
  · subst e
    simp only [if_true, he] at hu
    simp at hu; subst hu
    have := hc.1
    rw [Nat.mul_one, Nat.add_zero] at this ⊢
    exact set_eq' w this
  · simp only [if_neg e] at hu
    rw [set_ne' w (by omega)]
    rw [hv] at hu; cases hu
    exact hc.1
/-- An element of two cells is stored. -/
theorem FlatAt.set2 {f : Nat → α} (hn : ∀ x, (enc x).length = 2) (h : FlatAt enc 2 B len f w) {k : Nat} {x : α} {u0 u1 : Value} (he : enc x = [u0, u1]) :
    FlatAt enc 2 B len (fun j => if j = k then x else f j) ((w.setCell ⟨B, k * 2, none⟩ u0).setCell ⟨B, k * 2 + 1, none⟩ u1) := by
  intro j hj i u hu
  have hi : i < 2 := by have := (List.getElem?_eq_some_iff.1 hu).1; rwa [hn] at this
  obtain ⟨v, hv⟩ : ∃ v, (enc (f j))[i]? = some v := ⟨_, List.getElem?_eq_getElem (by rw [hn]; exact hi)⟩
  have hc := h j hj i v hv
  refine ⟨?_, fun _ => by rw [World.frozen?_setCell, World.frozen?_setCell]; exact hc.2 rfl⟩
  by_cases e : j = k
  · subst e
    simp only [if_true, he] at hu
    match i, hi, hu with
    | 0, _, hu =>
      simp at hu; subst hu
      rw [set_ne' _ (by omega)]
      exact set_eq' w hc.1
    | 1, _, hu =>
      simp at hu; subst hu
      exact set_eq' _ ((set_ne' w (by omega)).trans hc.1)
  · simp only [if_neg e] at hu
    rw [set_ne' _ (by omega), set_ne' w (by omega)]
    rw [hv] at hu; cases hu
    exact hc.1
/-- An element of four cells is stored. -/
theorem FlatAt.set4 {f : Nat → α} (hn : ∀ x, (enc x).length = 4) (h : FlatAt enc 4 B len f w) {k : Nat} {x : α} {u0 u1 u2 u3 : Value} (he : enc x = [u0, u1, u2, u3]) :
    FlatAt enc 4 B len (fun j => if j = k then x else f j) ((((w.setCell ⟨B, k * 4, none⟩ u0).setCell ⟨B, k * 4 + 1, none⟩ u1).setCell ⟨B, k * 4 + 2, none⟩ u2).setCell ⟨B, k * 4 + 3, none⟩ u3) := by
  intro j hj i u hu
  have hi : i < 4 := by have := (List.getElem?_eq_some_iff.1 hu).1; rwa [hn] at this
  obtain ⟨v, hv⟩ : ∃ v, (enc (f j))[i]? = some v := ⟨_, List.getElem?_eq_getElem (by rw [hn]; exact hi)⟩
  have hc := h j hj i v hv
  refine ⟨?_, fun _ => by rw [World.frozen?_setCell, World.frozen?_setCell, World.frozen?_setCell, World.frozen?_setCell]; exact hc.2 rfl⟩
  by_cases e : j = k
  · subst e
    simp only [if_true, he] at hu
    match i, hi, hu with
    | 0, _, hu =>
      simp at hu; subst hu
      rw [set_ne' _ (by omega), set_ne' _ (by omega), set_ne' _ (by omega)]
      exact set_eq' w hc.1
    | 1, _, hu =>
      simp at hu; subst hu
      rw [set_ne' _ (by omega), set_ne' _ (by omega)]
      exact set_eq' _ ((set_ne' w (by omega)).trans hc.1)
    | 2, _, hu =>
      simp at hu; subst hu
      rw [set_ne' _ (by omega)]
      exact set_eq' _ ((set_ne' _ (by omega)).trans ((set_ne' w (by omega)).trans hc.1))
    | 3, _, hu =>
      simp at hu; subst hu
      exact set_eq' _ ((set_ne' _ (by omega)).trans ((set_ne' _ (by omega)).trans ((set_ne' w (by omega)).trans hc.1)))
  · simp only [if_neg e] at hu
    rw [set_ne' _ (by omega), set_ne' _ (by omega), set_ne' _ (by omega), set_ne' w (by omega)]
    rw [hv] at hu; cases hu
    exact hc.1
end

/-- What has been copied so far: the first k elements, zeros behind. -/
def filled {α : Type} (xs : List α) (z : α) (k : Nat) (j : Nat) : α := if j < k then xs.getD j z else z
theorem filled_zero {α : Type} (xs : List α) (z : α) : filled xs z 0 = fun _ => z := by funext j; simp [filled]
theorem filled_succ {α : Type} (xs : List α) (z : α) (k : Nat) (hk : k < xs.length) : filled xs z (k + 1) = fun j => if j = k then xs[k] else filled xs z k j := by
  funext j
  unfold filled
  by_cases e : j = k
  · subst e
    rw [if_pos (by omega), if_pos rfl, List.getD_eq_getElem?_getD, List.getElem?_eq_getElem hk]; rfl
  · rw [if_neg e]
    by_cases h : j < k
    · rw [if_pos (by omega), if_pos h]
    · rw [if_neg (by omega), if_neg h]
theorem FlatAt.done {α : Type} {enc : α → List Value} {n B : Nat} {w : World} {xs : List α} {z : α} (h : FlatAt enc n B xs.length (filled xs z xs.length) w) : FlatAt enc n B xs.length (fun j => xs.getD j z) w :=
  h.mono (Nat.le_refl _) fun j hj => by unfold filled; rw [if_pos hj]
end Go.Proofs.YtahbepajeplcmaaDoor

/- Memory in parts that do not meet: what a call has made. No program in sight. -/
namespace Go.Proofs.YtahbepajeplcmaaDoor
open Go.RowKit

/-- A part of the memory, with the blocks that it reaches. -/
structure Asn where
  p : World → List Nat → Prop
  lt : ∀ {w F}, p w F → ∀ b ∈ F, b < w.heap.size
  keep : ∀ {w w' F}, p w F → (∀ b ∈ F, w'.heap[b]? = w.heap[b]?) → p w' F

/-- All the parts, no two of which meet. -/
def sep : List Asn → World → List Nat → Prop
  | [], _, F => F = []
  | q :: ps, w, F => ∃ F1 F2, F = F1 ++ F2 ∧ (∀ b ∈ F1, b ∉ F2) ∧ q.p w F1 ∧ sep ps w F2

theorem sep_lt {w : World} : ∀ {ps : List Asn} {F : List Nat}, sep ps w F → ∀ b ∈ F, b < w.heap.size
  | [], _, h => by subst h; simp
  | q :: ps, _, h => by
    obtain ⟨F1, F2, rfl, _, h1, h2⟩ := h
    intro b hb
    rcases List.mem_append.1 hb with hb | hb
    · exact q.lt h1 b hb
    · exact sep_lt h2 b hb
theorem sep_keep {w w' : World} : ∀ {ps : List Asn} {F : List Nat}, sep ps w F → (∀ b ∈ F, w'.heap[b]? = w.heap[b]?) → sep ps w' F
  | [], _, h, _ => h
  | q :: ps, _, h, hk => by
    obtain ⟨F1, F2, rfl, hd, h1, h2⟩ := h
    exact ⟨F1, F2, rfl, hd, q.keep h1 fun b hb => hk b (List.mem_append.2 (.inl hb)), sep_keep h2 fun b hb => hk b (List.mem_append.2 (.inr hb))⟩
theorem sep_upd {w : World} : ∀ {ps : List Asn} {F : List Nat} {i : Nat} {q : Asn}, sep ps w F → ps[i]? = some q →
    ∃ Fi, q.p w Fi ∧ (∀ b ∈ Fi, b ∈ F) ∧ ∀ w' q' Fi', Chg Fi w w' → q'.p w' Fi' → (∀ b ∈ Fi', b ∈ Fi ∨ w.heap.size ≤ b) → ∃ F', sep (ps.set i q') w' F' ∧ ∀ b ∈ F', b ∈ F ∨ w.heap.size ≤ b
  | [], _, _, _, _, h => by simp at h
  | q :: ps, _, 0, q0, h, hi => by
    obtain ⟨F1, F2, rfl, hd, h1, h2⟩ := h
    simp at hi; subst hi
    refine ⟨F1, h1, fun b hb => List.mem_append.2 (.inl hb), fun w' q' Fi' hc hq hF => ⟨Fi' ++ F2, ⟨Fi', F2, rfl, fun b hb hb2 => ?_, hq, sep_keep h2 fun b hb => hc.block b (sep_lt h2 b hb) fun hb1 => hd b hb1 hb⟩, fun b hb => ?_⟩⟩
    · rcases hF b hb with h | h
      · exact hd b h hb2
      · have := sep_lt h2 b hb2; omega
    · rcases List.mem_append.1 hb with hb | hb
      · exact (hF b hb).imp (fun h => List.mem_append.2 (.inl h)) id
      · exact .inl (List.mem_append.2 (.inr hb))
  | q :: ps, _, i + 1, q0, h, hi => by
    obtain ⟨F1, F2, rfl, hd, h1, h2⟩ := h
    obtain ⟨Fi, hp, hsub, hall⟩ := sep_upd (i := i) (q := q0) h2 (by simpa using hi)
    refine ⟨Fi, hp, fun b hb => List.mem_append.2 (.inr (hsub b hb)), fun w' q' Fi' hc hq hF => ?_⟩
    obtain ⟨F', hs, hF'⟩ := hall w' q' Fi' hc hq hF
    refine ⟨F1 ++ F', ⟨F1, F', rfl, fun b hb hb2 => ?_, q.keep h1 fun b hb => hc.block b (q.lt h1 b hb) fun hbi => hd b hb (hsub b hbi), hs⟩, fun b hb => ?_⟩
    · rcases hF' b hb2 with h | h
      · exact hd b hb h
      · have := q.lt h1 b hb; omega
    · rcases List.mem_append.1 hb with hb | hb
      · exact .inl (List.mem_append.2 (.inl hb))
      · exact (hF' b hb).imp (fun h => List.mem_append.2 (.inr h)) id

/-- Since w0 nothing old has turned; of what is new these are the parts. -/
def Sp (w0 w : World) (ps : List Asn) : Prop := Below w0.heap.size w0 w ∧ ∃ F, sep ps w F ∧ ∀ b ∈ F, w0.heap.size ≤ b

section
variable {w0 w w' : World} {ps : List Asn} {i : Nat} {q : Asn}
theorem Sp.start (w : World) : Sp w w [] := ⟨bb _, [], rfl, by simp⟩
theorem Sp.of_below (h : Below w0.heap.size w0 w) : Sp w0 w [] := ⟨h, [], rfl, by simp⟩
theorem Sp.below (h : Sp w0 w ps) : Below w0.heap.size w0 w := h.1
theorem Sp.grow (h : Sp w0 w ps) (hb : Below w.heap.size w w') : Sp w0 w' ps := by
  obtain ⟨h1, F, h2, h3⟩ := h
  exact ⟨btr h1 hb, F, sep_keep h2 fun b hm => hb.block b (sep_lt h2 b hm), h3⟩
theorem Sp.drew (h : Sp w0 w ps) : Sp w0 w.drew ps := h.grow (bdr (bb _))
theorem Sp.alloc (h : Sp w0 w ps) (o : Obj) : Sp w0 (w.alloc o) ps := h.grow (bal (bb _) o)
theorem Sp.upd (h : Sp w0 w ps) (hi : ps[i]? = some q) : ∃ Fi, q.p w Fi ∧ (∀ b ∈ Fi, w0.heap.size ≤ b) ∧
    ∀ w' q' Fi', Chg Fi w w' → q'.p w' Fi' → (∀ b ∈ Fi', b ∈ Fi ∨ w.heap.size ≤ b) → Sp w0 w' (ps.set i q') := by
  obtain ⟨h1, F, h2, h3⟩ := h
  obtain ⟨Fi, hp, hsub, hall⟩ := sep_upd h2 hi
  refine ⟨Fi, hp, fun b hb => h3 b (hsub b hb), fun w' q' Fi' hc hq hF => ?_⟩
  obtain ⟨F', hs, hF'⟩ := hall w' q' Fi' hc hq hF
  exact ⟨h1.trans (hc.below h1.size fun b hb => h3 b (hsub b hb)), F', hs, fun b hb => (hF' b hb).elim (h3 b) (Nat.le_trans h1.size)⟩
theorem Sp.get (h : Sp w0 w ps) (hi : ps[i]? = some q) : ∃ Fi, q.p w Fi ∧ (∀ b ∈ Fi, w0.heap.size ≤ b) := by
  obtain ⟨Fi, h1, h2, _⟩ := h.upd hi
  exact ⟨Fi, h1, h2⟩
theorem Sp.new {F : List Nat} (h : Sp w0 w ps) (hb : Below w.heap.size w w') (hq : q.p w' F) (hF : ∀ b ∈ F, w.heap.size ≤ b) : Sp w0 w' (q :: ps) := by
  obtain ⟨h1, G, h2, h3⟩ := h
  have h4 := sep_keep h2 fun b hm => hb.block b (sep_lt h2 b hm)
  refine ⟨btr h1 hb, F ++ G, ⟨F, G, rfl, fun b hb1 hb2 => ?_, hq, h4⟩, fun b hm => ?_⟩
  · have := hF b hb1; have := sep_lt h2 b hb2; omega
  · rcases List.mem_append.1 hm with hm | hm
    · exact Nat.le_trans h1.size (hF b hm)
    · exact h3 b hm
theorem Sp.tail (h : Sp w0 w (q :: ps)) : Sp w0 w ps := by
  obtain ⟨h1, F, ⟨F1, F2, rfl, _, _, h2⟩, h3⟩ := h
  exact ⟨h1, F2, h2, fun b hb => h3 b (List.mem_append.2 (.inr hb))⟩
theorem Sp.head (h : Sp w0 w (q :: ps)) : ∃ F, q.p w F ∧ ∀ b ∈ F, w0.heap.size ≤ b := by
  obtain ⟨h1, F, ⟨F1, F2, rfl, _, h2, _⟩, h3⟩ := h
  exact ⟨F1, h2, fun b hb => h3 b (List.mem_append.2 (.inl hb))⟩
theorem Sp.swap {q' : Asn} (h : Sp w0 w (q :: q' :: ps)) : Sp w0 w (q' :: q :: ps) := by
  obtain ⟨h1, F, ⟨F1, F2, rfl, hd, h2, F3, F4, rfl, hd', h4, h5⟩, h3⟩ := h
  refine ⟨h1, F3 ++ (F1 ++ F4), ⟨F3, F1 ++ F4, rfl, fun b hb hb2 => ?_, h4, F1, F4, rfl, fun b hb hb2 => hd b hb (List.mem_append.2 (.inr hb2)), h2, h5⟩, fun b hb => h3 b ?_⟩
  · rcases List.mem_append.1 hb2 with h | h
    · exact hd b h (List.mem_append.2 (.inl hb))
    · exact hd' b hb h
  · simp only [List.mem_append] at hb ⊢
    rcases hb with h | h | h
    · exact .inr (.inl h)
    · exact .inl h
    · exact .inr (.inr h)
end

/-- A block that is known whole. -/
def Box (b : Nat) (t : TypeId) (cs : Array Value) : Asn where
  p w F := F = [b] ∧ w.heap[b]? = some (.cells cs t (0, 0))
  lt := by
    rintro w F ⟨rfl, h⟩ b' hb
    obtain rfl : b' = b := by simpa using hb
    rcases Nat.lt_or_ge b' w.heap.size with h' | h'
    · exact h'
    · rw [Array.getElem?_eq_none h'] at h; cases h
  keep := by
    rintro w w' F ⟨rfl, h⟩ hk
    exact ⟨rfl, (hk b (by simp)).trans h⟩

section
variable {w0 w w' : World} {ps : List Asn} {i b o : Nat} {t : TypeId} {cs : Array Value}
theorem Sp.box (h : Sp w0 w ps) (hi : ps[i]? = some (Box b t cs)) : w0.heap.size ≤ b ∧ b < w.heap.size ∧ w.heap[b]? = some (.cells cs t (0, 0)) := by
  obtain ⟨F, hp, hF⟩ := h.get hi
  have hlt := (Box b t cs).lt hp b
  obtain ⟨rfl, hh⟩ := hp
  exact ⟨hF b (by simp), hlt (by simp), hh⟩
theorem Sp.cell (h : Sp w0 w ps) (hi : ps[i]? = some (Box b t cs)) {u : Value} (ho : cs[o]? = some u) : w.cell? ⟨b, o, none⟩ = some u := by
  simp [World.cell?, (h.box hi).2.2, ho]
theorem Sp.frozen (h : Sp w0 w ps) (hi : ps[i]? = some (Box b t cs)) (o : Nat) : w.frozen? ⟨b, o, none⟩ = false := by
  simp [World.frozen?, (h.box hi).2.2]
theorem Sp.store (h : Sp w0 w ps) (hi : ps[i]? = some (Box b t cs)) (o : Nat) (u : Value) : Sp w0 (w.setCell ⟨b, o, none⟩ u) (ps.set i (Box b t (cs.setIfInBounds o u))) := by
  obtain ⟨F, ⟨rfl, hh⟩, hF, hall⟩ := h.upd hi
  refine hall _ _ [b] ((Chg.refl _ _).set (by simp) _) ⟨rfl, ?_⟩ (fun b hb => .inl hb)
  simp [World.setCell, Array.getElem?_modify, hh]
theorem Sp.alloc_box (h : Sp w0 w ps) (cs : Array Value) (t : TypeId) : Sp w0 (w.alloc (.cells cs t)) (Box w.heap.size t cs :: ps) :=
  h.new (bal (bb _) _) (F := [w.heap.size]) ⟨rfl, heap_alloc_new w _⟩ (by simp)
end

theorem owns_keep {w w' : World} {B : Nat} {e : TypeId} {size : Nat} {v : Value} {n : Nat} {xs : List Value} (h : w.ownsRow B e size v n xs) (hk : ∀ g, v.ownBlock = some g → w'.heap[g]? = w.heap[g]?) : w'.ownsRow B e size v n xs := by
  obtain ⟨hl, h | ⟨g, cap, cur, rfl, hg, hh, r⟩⟩ := h
  · exact ⟨hl, .inl h⟩
  · exact ⟨hl, .inr ⟨g, cap, cur, rfl, hg, (hk g rfl).trans hh, r⟩⟩
theorem owns_lt {w : World} {B : Nat} {e : TypeId} {size : Nat} {v : Value} {n : Nat} {xs : List Value} (h : w.ownsRow B e size v n xs) {g : Nat} (hg : v.ownBlock = some g) : g < w.heap.size := by
  obtain ⟨hl, ⟨rfl, _⟩ | ⟨g', cap, cur, rfl, _, hh, r⟩⟩ := h
  · cases hg
  · obtain rfl : g' = g := by simpa [Value.ownBlock] using hg
    rcases Nat.lt_or_ge g' w.heap.size with h' | h'
    · exact h'
    · rw [Array.getElem?_eq_none h'] at hh; cases hh

/-- A row of the call's own. -/
def Own (e : TypeId) (size : Nat) (v : Value) (n : Nat) (xs : List Value) : Asn where
  p w F := F = v.ownBlock.toList ∧ w.ownsRow 0 e size v n xs
  lt := by
    rintro w F ⟨rfl, h⟩ b hb
    exact owns_lt h (by simpa using hb)
  keep := by
    rintro w w' F ⟨rfl, h⟩ hk
    exact ⟨rfl, owns_keep h fun g hg => hk g (by simp [hg])⟩

section
variable {w0 w w1 w' : World} {ps : List Asn} {i n n' size : Nat} {e : TypeId} {v v' : Value} {xs xs' : List Value}
theorem Sp.own (h : Sp w0 w ps) (hi : ps[i]? = some (Own e size v n xs)) : w.ownsRow 0 e size v n xs := by
  obtain ⟨F, hp, _⟩ := h.get hi
  exact hp.2
/-- Behind an append to an own row. -/
theorem Sp.own_push (h : Sp w0 w ps) (hi : ps[i]? = some (Own e size v n xs)) (hb : Below w.heap.size w w1) (ho : w'.ownsRow 0 e size v' n' xs') (hg : w1.grownBy w' v.ownBlock)
    (hat : v'.ownBlock = v.ownBlock ∨ v'.ownBlock = some w1.heap.size) : Sp w0 w' (ps.set i (Own e size v' n' xs')) := by
  obtain ⟨F, ⟨rfl, hh⟩, hF, hall⟩ := h.upd hi
  refine hall w' _ v'.ownBlock.toList ?_ ⟨rfl, ho⟩ fun b hm => ?_
  · exact ⟨hg.os.trans hb.os, hg.tape.trans hb.tape, hg.output.trans hb.output, Nat.le_trans hb.size hg.size, fun k hk hn =>
      (hg.block k (Nat.lt_of_lt_of_le hk hb.size) (fun e => hn (by simp [← e]))).trans (hb.block k hk)⟩
  · rcases hat with h1 | h1
    · exact .inl (by rw [h1] at hm; exact hm)
    · rw [h1] at hm
      obtain rfl : b = w1.heap.size := by simpa using hm
      exact .inr hb.size
/-- A new own row. -/
theorem Sp.own_new (h : Sp w0 w ps) (hb : Below w.heap.size w w') (ho : w'.ownsRow 0 e size v n xs) (hv : ∀ g, v.ownBlock = some g → w.heap.size ≤ g) : Sp w0 w' (Own e size v n xs :: ps) :=
  h.new hb (F := v.ownBlock.toList) ⟨rfl, ho⟩ fun b hm => hv b (by simpa using hm)
theorem Sp.own_nil (h : Sp w0 w ps) (e : TypeId) (size : Nat) : Sp w0 w (Own e size (.slice none 0 0) 0 [] :: ps) :=
  h.own_new (bb _) (World.ownsRow_nil _ _ _ _) (fun g hg => by cases hg)
theorem Sp.own_made (h : Sp w0 w ps) (e : TypeId) (size : Nat) : Sp w0 (w.alloc (.cells #[] e)) (Own e size (.slice (some ⟨w.heap.size, 0, none⟩) 0 0) 0 [] :: ps) :=
  h.own_new (bal (bb _) _) ⟨by simp, .inr ⟨w.heap.size, 0, #[], rfl, Nat.zero_le _, heap_alloc_new w _, Nat.le_refl _, by decide, by simp, by simp⟩⟩ (fun g hg => by
    have : w.heap.size = g := by simpa [Value.ownBlock] using hg
    omega)
end

/-- A row with all that it reaches, all of it the call's own. -/
def Row {α : Type} (T : Ty α) (v : Value) (xs : List α) : Asn where
  p w F := T.row true w v xs F ∧ F.Nodup
  lt h := Ty.row_lt h.1
  keep h hk := ⟨Ty.row_keep h.1 hk, h.2⟩

/-- An own row of own rows, as far as it has grown. -/
def Rows {α : Type} (T : Ty α) (e : TypeId) (v : Value) (cs : List Value) (xss : List (List α)) : Asn where
  p w F := ∃ G, F = v.ownBlock.toList ++ G ∧ F.Nodup ∧ (Ty.slice T).all true w cs xss G ∧ w.ownsRow 0 e 1 v xss.length cs
  lt := by
    rintro w F ⟨G, rfl, _, h1, h2⟩ b hb
    rcases List.mem_append.1 hb with hb | hb
    · exact owns_lt h2 (by simpa using hb)
    · exact Ty.all_lt h1 b hb
  keep := by
    rintro w w' F ⟨G, rfl, h0, h1, h2⟩ hk
    exact ⟨G, rfl, h0, Ty.all_keep h1 fun b hb => hk b (List.mem_append.2 (.inr hb)), owns_keep h2 fun g hg => hk g (by simp [hg])⟩

section
variable {α : Type} {T : Ty α} {w0 w w1 w' : World} {ps : List Asn} {i : Nat} {e : TypeId} {v v' u : Value} {cs : List Value} {xss : List (List α)} {ys : List α}
theorem Sp.row_new {xs : List α} {F : List Nat} (h : Sp w0 w ps) (hb : Below w.heap.size w w') (hr : T.row true w' v xs F) (hn : F.Nodup) (hF : ∀ b ∈ F, w.heap.size ≤ b) : Sp w0 w' (Row T v xs :: ps) := h.new hb ⟨hr, hn⟩ hF
theorem Sp.rows (h : Sp w0 w ps) (hi : ps[i]? = some (Rows T e v cs xss)) : w.ownsRow 0 e 1 v xss.length cs := by
  obtain ⟨F, ⟨G, _, _, _, h⟩, _⟩ := h.get hi
  exact h
theorem Sp.rows_nil (h : Sp w0 w ps) (T : Ty α) (e : TypeId) : Sp w0 w (Rows T e (.slice none 0 0) [] [] :: ps) :=
  h.new (F := []) (bb _) ⟨[], rfl, by simp, ⟨rfl, rfl⟩, World.ownsRow_nil _ _ _ _⟩ (by simp)
theorem Sp.rows_made (h : Sp w0 w ps) (T : Ty α) (e : TypeId) : Sp w0 (w.alloc (.cells #[] e)) (Rows T e (.slice (some ⟨w.heap.size, 0, none⟩) 0 0) [] [] :: ps) :=
  h.new (F := [w.heap.size]) (bal (bb _) _) ⟨[], rfl, by simp, ⟨rfl, rfl⟩, ⟨by simp, .inr ⟨w.heap.size, 0, #[], rfl, Nat.zero_le _, heap_alloc_new w _, Nat.le_refl _, by decide, by simp, by simp⟩⟩⟩ (by simp)
/-- A row goes into a row of rows. -/
theorem Sp.rows_push (h : Sp w0 w (Row T u ys :: Rows T e v cs xss :: ps)) (hb : Below w.heap.size w w1) (ho : w'.ownsRow 0 e 1 v' (xss.length + 1) (cs ++ [u])) (hg : w1.grownBy w' v.ownBlock)
    (hat : v'.ownBlock = v.ownBlock ∨ v'.ownBlock = some w1.heap.size) : Sp w0 w' (Rows T e v' (cs ++ [u]) (xss ++ [ys]) :: ps) := by
  obtain ⟨h1, F, ⟨F1, F2, rfl, hd, ⟨hr, hn⟩, ⟨F3, F4, rfl, hd', ⟨G, rfl, hn', hall, hown⟩, h5⟩⟩, h3⟩ := h
  have hr1 := Ty.row_keep hr fun b hm => hb.block b (Ty.row_lt hr b hm)
  have hall1 := Ty.all_keep hall fun b hm => hb.block b (Ty.all_lt hall b hm)
  have h51 := sep_keep h5 fun b hm => hb.block b (sep_lt h5 b hm)
  have hkeep : ∀ b, b < w.heap.size → (∀ g, v.ownBlock = some g → b ≠ g) → w'.heap[b]? = w1.heap[b]? := fun b hlt hne => hg.block b (Nat.lt_of_lt_of_le hlt hb.size) (fun e => hne b e.symm rfl)
  have hr2 := Ty.row_keep hr1 fun b hm => hkeep b (Ty.row_lt hr b hm) fun g hg' e => hd b hm (by simp [hg', e])
  have hnG : ∀ b ∈ G, ∀ g, v.ownBlock = some g → b ≠ g := fun b hm g hg' e => by
    rw [List.nodup_append] at hn'
    exact hn'.2.2 g (by simp [hg']) b hm e.symm
  have hall2 := Ty.all_keep hall1 fun b hm => hkeep b (Ty.all_lt hall b hm) (hnG b hm)
  have h52 := sep_keep h51 fun b hm => hkeep b (sep_lt h5 b hm) fun g hg' e => hd' b (by simp [hg', e]) hm
  have hlv : ∀ b ∈ v'.ownBlock.toList, b ∈ v.ownBlock.toList ∨ b = w1.heap.size := fun b hm => by
    rcases hat with h | h
    · left; rwa [h] at hm
    · right; rw [h] at hm; simpa using hm
  have hs := hb.size
  have hbel : Below w0.heap.size w0 w' := (btr h1 hb).trans ⟨hg.os, hg.tape, hg.output, hg.size, fun k hk => hg.block k (by have := h1.size; omega) (fun e => by have := h3 k (by simp [← e]); omega)⟩
  refine ⟨hbel, (v'.ownBlock.toList ++ (G ++ F1)) ++ F4, ⟨_, F4, rfl, ?_, ⟨G ++ F1, rfl, ?_, ?_, by simpa using ho⟩, h52⟩, ?_⟩
  · intro b hm hm4
    rcases List.mem_append.1 hm with hm | hm
    · rcases hlv b hm with h | h
      · exact hd' b (List.mem_append.2 (.inl h)) hm4
      · have := sep_lt h5 b hm4; omega
    · rcases List.mem_append.1 hm with hm | hm
      · exact hd' b (List.mem_append.2 (.inr hm)) hm4
      · exact hd b hm (List.mem_append.2 (.inr hm4))
  · refine List.nodup_append.2 ⟨by cases v'.ownBlock <;> simp, List.nodup_append.2 ⟨(List.nodup_append.1 hn').2.1, hn, fun x hx y hy e => hd y hy (by simp [← e, hx])⟩, fun x hx y hy e => ?_⟩
    subst e
    rcases hlv x hx with h | h
    · rcases List.mem_append.1 hy with hy | hy
      · exact (List.nodup_append.1 hn').2.2 x h x hy rfl
      · exact hd x hy (List.mem_append.2 (.inl (List.mem_append.2 (.inl h))))
    · rcases List.mem_append.1 hy with hy | hy
      · have := Ty.all_lt hall x hy; omega
      · have := Ty.row_lt hr x hy; omega
  · exact Ty.all_snoc hall2 ⟨u, rfl, hr2⟩
  · intro b hm
    rcases List.mem_append.1 hm with hm | hm
    · rcases List.mem_append.1 hm with hm | hm
      · rcases hlv b hm with h | h
        · exact h3 b (by simp at h ⊢; simp [h])
        · have := h1.size; omega
      · rcases List.mem_append.1 hm with hm | hm
        · exact h3 b (by simp [hm])
        · exact h3 b (by simp [hm])
    · exact h3 b (by simp [hm])
/-- The finished row of rows. -/
theorem Sp.rows_done (h : Sp w0 w ps) (hi : ps[i]? = some (Rows T e v cs xss)) : ∃ F, (Ty.slice T).row true w v xss F ∧ F.Nodup ∧ (∀ b ∈ F, w0.heap.size ≤ b) := by
  obtain ⟨F, ⟨G, rfl, hn, hall, hown⟩, hF⟩ := h.get hi
  obtain ⟨F', hr, hF', _⟩ := Ty.row_of_owns hown rfl (by decide) hall
  rcases hF' with rfl | ⟨g, _, _, ho, rfl⟩
  · exact ⟨[], hr, by simp, by simp⟩
  · refine ⟨g :: G, hr, ?_, ?_⟩
    · rw [ho] at hn; simpa using hn
    · rw [ho] at hF; simpa using hF
end

/-- append to an own row, as one step of a region that draws: with the place of the new row. -/
theorem step_append_at {P : Program} {ops : Array Oper} {o : Oper} {a : Act} {w : World} {K : Act → World → Prop} {Q : Exit → Act → World → Prop} {E : Prop} (hgd : o.guard = none) (s x : Operand) (t : TypeId)
    (ho : o.op = .call { callee := .builtin .append, args := #[s, x], argTypes := #[t, t] })
    (e : TypeId) (i : TypeInfo) (z : Value) (size bytes : Nat) (ht : P.underlying t = some (.slice e)) (hi : P.info? e = some i) (hz : i.zero = some z)
    (hsize : i.size = size) (hby : i.bytes = bytes) (hzs : z.cells.size = size) (hsz : 0 < size)
    (v : Value) (n : Nat) (xs : List Value) (hs : a.eval s = v) (hown : w.ownsRow 0 e size v n xs)
    (ad : Addr) (m c : Nat) (news : List Value) (hx : a.eval x = .slice (some ad) m c) (hl : news.length = m * size) (hnews : ∀ j u, news[j]? = some u → w.cell? (ad.add j) = some u) (h1 : ∀ u ∈ news, u.oneCell' = true)
    (h63 : n + m ≤ maxLen) (hbytes : (n + m) * bytes ≤ 140737488355328)
    (h : ∀ v' w', w'.ownsRow 0 e size v' (n + m) (xs ++ news) → w.grownBy w' v.ownBlock → (v'.ownBlock = v.ownBlock ∨ v'.ownBlock = some w.heap.size) → K (a.put o.dst v') w') :
    if Region.wanted o (yielded ops a.tmps) = true then Oper.wp P o a w K Q else E := by
  have hw : Region.wanted o (yielded ops a.tmps) = true := by simp [Region.wanted, hgd]
  rw [if_pos hw]
  obtain ⟨v', w', hr, h2, h3, _, h5⟩ := run_append_own_at (P := P) w 0 t o.type e i z size bytes ht hi hz hsize hby hzs hsz v n xs hown ad m c news hl hnews h1 h63 hbytes (Nat.zero_le _)
  unfold Oper.wp execOp
  simp only [ho, resolve, invoke, builtin, Sem.run_bind, Sem.run_pure, Result.andThen_ok, List.map_toArray, List.map_cons, List.map_nil, hs, hx, hr]
  exact h v' w' h2 h3 h5
theorem wpList_append_at {P : Program} {ops : Array Oper} {rest : List Oper} {o : Oper} {a : Act} {w : World} {Q : Exit → Act → World → Prop} (hgd : o.guard = none) (s x : Operand) (t : TypeId)
    (ho : o.op = .call { callee := .builtin .append, args := #[s, x], argTypes := #[t, t] })
    (e : TypeId) (i : TypeInfo) (z : Value) (size bytes : Nat) (ht : P.underlying t = some (.slice e)) (hi : P.info? e = some i) (hz : i.zero = some z)
    (hsize : i.size = size) (hby : i.bytes = bytes) (hzs : z.cells.size = size) (hsz : 0 < size)
    (v : Value) (n : Nat) (xs : List Value) (hs : a.eval s = v) (hown : w.ownsRow 0 e size v n xs)
    (ad : Addr) (m c : Nat) (news : List Value) (hx : a.eval x = .slice (some ad) m c) (hl : news.length = m * size) (hnews : ∀ j u, news[j]? = some u → w.cell? (ad.add j) = some u) (h1 : ∀ u ∈ news, u.oneCell' = true)
    (h63 : n + m ≤ maxLen) (hbytes : (n + m) * bytes ≤ 140737488355328)
    (h : ∀ v' w', w'.ownsRow 0 e size v' (n + m) (xs ++ news) → w.grownBy w' v.ownBlock → (v'.ownBlock = v.ownBlock ∨ v'.ownBlock = some w.heap.size) → wpList P ops Q rest (a.put o.dst v') w') :
    wpList P ops Q (o :: rest) a w :=
  wpList_append_own_at w hgd s x t ho 0 e i z size bytes ht hi hz hsize hby hzs hsz v n xs hs hown ad m c news hx hl hnews h1 h63 hbytes (Nat.zero_le _) fun v' w' h1 h2 _ h3 => h v' w' h1 h2 h3
theorem cell_alloc {w : World} {a : Addr} {u : Value} (h : w.cell? a = some u) (o : Obj) : (w.alloc o).cell? a = some u :=
  (World.cell?_alloc_lt _ _ _ (World.block_lt_of_cell? _ _ h)).trans h
theorem owns_form {w : World} {B : Nat} {e : TypeId} {size : Nat} {v : Value} {n : Nat} {xs : List Value} (h : w.ownsRow B e size v n xs) : ∃ a c, v = .slice a n c := by
  obtain ⟨_, ⟨rfl, rfl⟩ | ⟨g, cap, cur, rfl, _⟩⟩ := h
  · exact ⟨_, _, rfl⟩
  · exact ⟨_, _, rfl⟩
/-- One element that has just been laid in a block of its own. -/
theorem one_new {w : World} {x : Value} {t : TypeId} {b : Nat} (hb : b = w.heap.size) : ∀ j u, [x][j]? = some u → (w.alloc (.cells #[x] t)).cell? ((⟨b, 0, none⟩ : Addr).add j) = some u := by
  subst hb; exact cell_one_new w x t

section
variable {α : Type} {T : Ty α} {w0 w w' : World} {ps : List Asn} {i : Nat} {v : Value} {xs : List α}
theorem Sp.row_at (h : Sp w0 w ps) (hi : ps[i]? = some (Row T v xs)) : ∃ F, T.row false w v xs F := by
  obtain ⟨F, ⟨h1, _⟩, _⟩ := h.get hi
  exact ⟨F, Ty.row_down h1⟩
/-- A row is written. -/
theorem Sp.mark (h : Sp w0 w ps) (hi : ps[i]? = some (Row T v xs)) : ∃ F, T.row true w v xs F ∧ F.Nodup ∧ ∀ w' ys, T.row true w' v ys F → Chg F w w' → Sp w0 w' (ps.set i (Row T v ys)) := by
  obtain ⟨F, ⟨h1, h2⟩, _, hall⟩ := h.upd hi
  exact ⟨F, h1, h2, fun w' ys hr hc => hall w' (Row T v ys) F hc ⟨hr, h2⟩ fun b hb => .inl hb⟩
end
end Go.Proofs.YtahbepajeplcmaaDoor

/- Contract: the text of a mark. -/
namespace Go.Proofs.YtahbepajeplcmaaDoor
open Go.RowKit

/-- The byte of a number. -/
def byteI (x : Int) : UInt8 := UInt8.ofNat x.toNat
theorem conv_one {P : Program} (src dst e : TypeId) (hs : P.underlying src = some (.slice e)) (he : P.underlying e = some (.int .u8)) (hd : P.underlying dst = some .string) (w : World) (x : Int) :
    (convert src dst (.slice (some ⟨w.heap.size, 0, none⟩) 1 1)).run P (w.alloc (.cells #[.int .u8 x] e)) = .ok (.string ⟨#[byteI x]⟩) (w.alloc (.cells #[.int .u8 x] e)) := by
  rw [run_convert_bytes_string _ src dst e _ 1 1 hs he hd]
  have hl := run_loadCells_list (P := P) (w.alloc (.cells #[.int .u8 x] e)) ⟨w.heap.size, 0, none⟩ ([x].map (Value.int .u8)) (fun j v hj => by
    match j, hj with
    | 0, hj => simp at hj; subst hj; simp [Addr.add])
  rw [run_bytesToString _ _ 1 1 [x] hl]
  rfl

/-- The digits of a number, none of 0. -/
def digs (n : Nat) : List UInt8 := if n = 0 then [] else Lib.decDigits n
theorem digs_step {n : Nat} (h : 0 < n) : digs n = digs (n / 10) ++ [UInt8.ofNat (48 + n % 10)] := by
  unfold digs
  rw [if_neg (by omega)]
  by_cases h1 : n < 10
  · rw [Lib.decDigits, dif_pos h1, if_pos (by omega)]
    simp [Nat.mod_eq_of_lt h1]
  · rw [decDigits_big h1, if_neg (by omega)]
theorem digs_len (n : Nat) (h : n ≤ 1000000000000000000) : (digs n).length ≤ 20 := by
  unfold digs
  split
  · simp
  · exact Nat.le_trans (decDigits_len 19 n (by omega)) (by omega)
/-- The text of a mark. -/
def markB (n : Nat) : List UInt8 := 109 :: digs n

set_option maxRecDepth 100000 in
set_option maxHeartbeats 1000000 in
theorem markText_any (K : Nat) (w : World) (h0 : 0 < K) (h1 : K ≤ 1000000000000000000) :
    Calls Tryd.prog 22 #[.int .i64 K] w fun e w' => e = .returned (.string (ms (markB K))) ∧ Below w.heap.size w w' := by
  have hle : ¬ (K : Int) ≤ 0 := by omega
  have hlenK := digs_len K h1
  go_enter Tryd.func22, Tryd.ntmps22
  go_wp2_with fail
  go_loopw [0, 3] (fun n s wr => ∃ (k : Nat) (l : List UInt8), k ≤ K ∧ n = .int .i64 k ∧ s = .string (ms l) ∧ Hid (digs K = digs k ++ l) ∧ Below w.heap.size w wr) (fun n _ _ => (intOf n).toNat)
  case atStart => exact ⟨K, [], Nat.le_refl _, rfl, rfl, by simp [Hid], bb _⟩
  case round =>
    obtain ⟨k, l, hk, rfl, rfl, HR, hB⟩ := hrel
    by_cases hlt : 0 < k
    · have hlt' : (0 : Int) < (k : Int) := by omega
      have hS : Hid (digs K = digs (k / 10) ++ (byteI (48 + (k : Int) % 10) :: l)) := by
        unfold Hid
        rw [HR.out, digs_step hlt, List.append_assoc]
        congr 1
      have hl : l.length ≤ 20 := by have h := congrArg List.length HR.out; rw [List.length_append] at h; omega
      have hkc := conv_one (P := Tryd.prog) 69 9 5 Tryd.underlying69 Tryd.underlying5 Tryd.underlying9
      have hadd := fun w => run_add (P := Tryd.prog) w ⟨#[byteI (48 + (k : Int) % 10)]⟩ (ms l) (by rw [ms_size]; show 1 + _ ≤ _; omega)
      clear HR
      go_wp2_with fail
      go_roundw
      case rel => exact ⟨k / 10, _, by omega, by simp, rfl, hS, (by repeat (first | exact bb _ | assumption | refine bal ?_ _ | refine bdr ?_ | refine bdn ?_ _ | refine bst ?_ (by simp <;> omega) _ | refine btr ?_ (by assumption)))⟩
      case measure => simp [intOf]; omega
    · obtain rfl : k = 0 := by omega
      have hS : Hid (digs K = l) := HR.out
      have hl : l.length ≤ 20 := by rw [← hS.out]; exact hlenK
      have hadd := fun w => run_add (P := Tryd.prog) w ⟨#[109]⟩ (ms l) (by rw [ms_size]; show 1 + _ ≤ _; omega)
      clear HR
      go_wp2_with fail
      go_ret
      exact ⟨by rw [markB, hS.out]; rfl, hB⟩
theorem markText_at {x : Int} (K : Nat) {w : World} (hx : x = (K : Int)) (h0 : 0 < K) (h1 : K ≤ 1000000000000000000) :
    Calls Tryd.prog 22 #[.int .i64 x] w fun e w' => e = .returned (.string (ms (markB K))) ∧ Below w.heap.size w w' := hx ▸ markText_any K w h0 h1
end Go.Proofs.YtahbepajeplcmaaDoor

/- A region that draws its order: loads are taken first under a condition S that the other operations keep; the last operations, which stand in one forced order (a store, an assignment), need not keep it. No program in sight. -/
namespace Go.Proofs.YtahbepajeplcmaaDoor

section
variable {P : Program} {ops : Array Oper} {Q : Exit → Act → World → Prop} {md : Region.Mode} {S : World → Prop} {n : Nat} {L : Array Bool → Act → World → Prop}

/-- Whatever comes up is one of the first n; behind each S holds; behind them L. -/
def headH (P : Program) (md : Region.Mode) (ops : Array Oper) (Q : Exit → Act → World → Prop) (S : World → Prop) (n : Nat) (L : Array Bool → Act → World → Prop) : Nat → Array Bool → Act → World → Prop
  | 0, s, a, w => L s a w
  | f + 1, s, a, w => Region.ready md ops s ≠ [] ∧ ∀ i ∈ Region.ready md ops s, i < n ∧ wpOp P ops Q i (fun a' w' => S w' ∧ headH P md ops Q S n L f (s.setIfInBounds i true) a' w') a w

theorem any_of_headH {g : Nat} (hL : ∀ s a w, L s a w → wpAny P md ops Q g s a w) :
    ∀ (f : Nat) (s : Array Bool) (a : Act) (w : World), headH P md ops Q S n L f s a w → wpAny P md ops Q (f + g) s a w
  | 0, s, a, w, h => by rw [Nat.zero_add]; exact hL s a w h
  | f + 1, s, a, w, h => by
    rw [show f + 1 + g = (f + g) + 1 by omega]
    exact ⟨fun e => absurd e h.1, fun i hi => wpOp_mono (fun a' w' h' => any_of_headH hL f _ a' w' h'.2) (h.2 i hi).2⟩

theorem headH_first {i : Nat} {oi : Oper} {v : Value} (hi : ops[i]? = some oi) (hsel : ∀ (j : Nat) (o : Oper) cs b, ops[j]? = some o → o.op ≠ .select cs b)
    (hQ : ∀ c a w, Q (.panic c) (a.put oi.dst v) w → Q (.panic c) a w)
    (hs : Region.sinkB md ops n = true) (hc : Region.chainB md ops n = true) (hn : n < ops.size) (hin : i < n) (hL : ∀ s a w, L s a w → ∀ j ∈ Region.ready md ops s, n ≤ j) (f : Nat) :
    ∀ (s : Array Bool) (a : Act) (w : World), HeadInv md ops n s →
      (∀ j oj, ops[j]? = some oj → j ≠ i → s.getD j true = false → (∀ e ∈ oj.after, Region.binds md e = true → e.on ≠ i) → oi.apart ops oj = true) →
      i ∈ Region.ready md ops s → YieldsIf P ops S oi v a → S w → headH P md ops Q S n L f (s.setIfInBounds i true) (a.put oi.dst v) w → headH P md ops Q S n L (f + 1) s a w := by
  induction f with
  | zero =>
    intro s a w inv _ hr hy hS H
    refine ⟨List.ne_nil_of_mem hr, fun j hj => ?_⟩
    have hjn : j < n := Nat.lt_of_not_le fun h => tail_waits hs hc hn inv _ i rfl hin (mem_ready.1 hr).1 j h hj
    refine ⟨hjn, ?_⟩
    by_cases e : j = i
    · subst e; exact hy.wpOp hi hS ⟨hS, H⟩
    · exact absurd (hL _ _ _ H j (ready_mono hj e)) (by omega)
  | succ f ih =>
    intro s a w inv hfree hr hy hS H
    refine ⟨List.ne_nil_of_mem hr, fun j hj => ?_⟩
    have hjn : j < n := Nat.lt_of_not_le fun h => tail_waits hs hc hn inv _ i rfl hin (mem_ready.1 hr).1 j h hj
    refine ⟨hjn, ?_⟩
    by_cases e : j = i
    · subst e; exact hy.wpOp hi hS ⟨hS, H⟩
    · obtain ⟨hjs, oj, hoj, hall⟩ := mem_ready.1 hj
      have hno : ∀ e ∈ oj.after, Region.binds md e = true → e.on ≠ i := by
        intro x hx hb hxi
        have := hall x hx hb
        rw [hxi, getD_both (mem_ready.1 hr).1] at this; cases this
      have h1 := wpOp_putIf hoj (hfree j oj hoj e hjs hno) (fun cs b => hsel i oi cs b hi) (fun cs b => hsel j oj cs b hoj) hQ hy (H.2 j (ready_mono hj e)).2
      refine wpOp_mono (fun a' w' h2 => ⟨h2.2.1, ih (s.setIfInBounds j true) a' w' (inv.set hj hjn) (fun k ok hk hki hun hw => hfree k ok hk hki ?_ hw) (ready_mono hr (Ne.symm e)) h2.1 h2.2.1 ?_⟩) h1
      · by_cases hjk : j = k
        · subst hjk; exact hjs
        · rw [getD_set_ne true hjk] at hun; exact hun
      · rw [Array.setIfInBounds_comm _ _ e]; exact h2.2.2

/-- The walk's own judgement. -/
def walkT (P : Program) (md : Region.Mode) (ops : Array Oper) (Q : Exit → Act → World → Prop) (S : World → Prop) (n : Nat) (L : Array Bool → Act → World → Prop) (f : Nat) (s : Array Bool) (a : Act) (w : World) : Prop :=
  HeadInv md ops n s → headH P md ops Q S n L f s a w
/-- The checks on the region. -/
def tailOk (md : Region.Mode) (ops : Array Oper) (n : Nat) : Bool := Region.noSelect ops && decide (n < ops.size) && Region.sinkB md ops n && Region.chainB md ops n
/-- What stands behind the head: the rest in its one order. -/
def tailL (P : Program) (ops : Array Oper) (Q : Exit → Act → World → Prop) (n : Nat) (l : List Oper) (s : Array Bool) (a : Act) (w : World) : Prop :=
  Region.seqB .any ops l.length n s = true ∧ wpList P ops Q l a w

/-- Take number i first. -/
theorem walkT_take {i : Nat} {l : List Oper} {oi : Oper} {v : Value} {f : Nat} {s : Array Bool} {a : Act} {w : World} (hi : ops[i]? = some oi) (hok : tailOk .any ops n = true) (hin : i < n) (hf : Region.free .any ops s i = true)
    (hr : (Region.ready .any ops s).contains i = true) (hQ : ∀ c a w, Q (.panic c) (a.put oi.dst v) w → Q (.panic c) a w) (hy : YieldsIf P ops S oi v a) (hS : S w)
    (h : walkT P .any ops Q S n (tailL P ops Q n l) f (s.setIfInBounds i true) (a.put oi.dst v) w) : walkT P .any ops Q S n (tailL P ops Q n l) (f + 1) s a w := fun inv => by
  simp only [tailOk, Bool.and_eq_true, decide_eq_true_eq] at hok
  obtain ⟨⟨⟨hsel, hn⟩, hs⟩, hc⟩ := hok
  have hr' : i ∈ Region.ready .any ops s := by simpa using hr
  exact headH_first hi (Region.noSelect_spec hsel) hQ hs hc hn hin (fun s' a' w' hL => seqB_ready hL.1) f s a w inv (Region.free_spec hi hf) hr' hy hS (h (inv.set hr' hin))

/-- Each of the operations 'rs' comes up next. -/
def AllT (P : Program) (md : Region.Mode) (ops : Array Oper) (Q : Exit → Act → World → Prop) (S : World → Prop) (n : Nat) (L : Array Bool → Act → World → Prop) (f : Nat) (s : Array Bool) (a : Act) (w : World) (rs : List Nat) : Prop :=
  ∀ i ∈ rs, wpOp P ops Q i (fun a' w' => S w' ∧ walkT P md ops Q S n L f (s.setIfInBounds i true) a' w') a w
theorem AllT.nil {f : Nat} {s : Array Bool} {a : Act} {w : World} : AllT P md ops Q S n L f s a w [] := fun _ h => by cases h
theorem AllT.cons {f : Nat} {s : Array Bool} {a : Act} {w : World} {i : Nat} {o : Oper} {rs : List Nat} (ho : ops[i]? = some o)
    (h : ∀ K' : Act → World → Prop, Shut (∀ a w, S w → (S w → walkT P md ops Q S n L f (s.setIfInBounds i true) a w) → K' a w) → if Region.wanted o (yielded ops a.tmps) = true then Oper.wp P o a w K' Q else K' (a.put o.dst undef) w)
    (hs : AllT P md ops Q S n L f s a w rs) : AllT P md ops Q S n L f s a w (i :: rs) := fun j hj => by
  rcases List.mem_cons.1 hj with rfl | hj
  · exact wpOp_step ho (fun K' hK => h K' (fun a w hS hW => hK a w ⟨hS, hW hS⟩))
  · exact hs j hj
theorem walkT_ready {rs : List Nat} {f : Nat} {s : Array Bool} {a : Act} {w : World} (hr : Region.ready md ops s = rs) (hne : rs ≠ []) (hlt : rs.all (fun i => decide (i < n)) = true)
    (h : AllT P md ops Q S n L f s a w rs) : walkT P md ops Q S n L (f + 1) s a w := fun inv =>
  ⟨by rw [hr]; exact hne, fun i hi => by
    have hin : i < n := by simpa using List.all_eq_true.1 hlt i (hr ▸ hi)
    exact ⟨hin, wpOp_mono (fun a' w' h' => ⟨h'.1, h'.2 (inv.set hi hin)⟩) (h i (hr ▸ hi))⟩⟩
/-- The head is done. -/
theorem walkT_done {l : List Oper} {s : Array Bool} {a : Act} {w : World} (hs : Region.seqB .any ops l.length n s = true) (h : wpList P ops Q l a w) : walkT P .any ops Q S n (tailL P ops Q n l) 0 s a w := fun _ => ⟨hs, h⟩
end

/-- The beginning. -/
theorem wp_region_tail {P : Program} {S : World → Prop} {id : Nat} {Q : Exit → Act → World → Prop} {a : Act} {w : World} {l : List Oper} (n : Nat) (hm : P.follows .mixedOrders = true) (hok : tailOk .any l.toArray n = true) (hS : S w.drew)
    (h : S w.drew → walkT P .any l.toArray Q S n (tailL P l.toArray Q n (l.drop n)) n (Array.replicate l.toArray.size false) a w.drew) : (Code.region id l.toArray true).wp P Q a w := by
  have hn : n < l.length := by simp only [tailOk, Bool.and_eq_true, decide_eq_true_eq] at hok; simpa using hok.1.1.2
  have inv0 : HeadInv .any l.toArray n (Array.replicate l.toArray.size false) :=
    ⟨by simp, fun j oj _ hl => (by rw [getD_replicate_false] at hl; cases hl), fun t _ ht => getD_in (by simpa using ht) (getD_replicate_false _ _)⟩
  have hdl : (l.drop n).length = l.toArray.size - n := by simp
  refine wp_region_any hm ?_
  have H2 := any_of_headH (Q := Q) (g := l.toArray.size - n) (fun s a' w' hL => by
    have := wpAny_of_seq (md := .any) (Q' := Q) (l.drop n) n s a' w' (fun j => by simp [List.getElem?_drop]) hL.1 hL.2
    rwa [hdl] at this) _ _ _ _ (h hS inv0)
  rw [show n + (l.toArray.size - n) = l.toArray.size by simp; omega] at H2
  exact H2
/-- The same beginnings with the number of operations and the list of what has come up written out. -/
theorem wp_region_held_lit {P : Program} {S : World → Prop} {id : Nat} {Q : Exit → Act → World → Prop} {a : Act} {w : World} {l : List Oper} (N : Nat) (s0 : List Bool) (hN : l.length = N) (hs : Array.replicate l.toArray.size false = s0.toArray)
    (hm : P.follows .mixedOrders = true) (hS : S w.drew) (h : S w.drew → wpAnyH P .any l.toArray Q S N s0.toArray a w.drew) : (Code.region id l.toArray true).wp P Q a w := by
  subst hN
  refine wp_region_held_drew (S := S) hm hS fun hS' => ?_
  rw [hs]
  exact h hS'
theorem wp_region_tail_lit {P : Program} {S : World → Prop} {id : Nat} {Q : Exit → Act → World → Prop} {a : Act} {w : World} {l : List Oper} (n : Nat) (s0 : List Bool) (hs : Array.replicate l.toArray.size false = s0.toArray)
    (hm : P.follows .mixedOrders = true) (hok : tailOk .any l.toArray n = true) (hS : S w.drew)
    (h : S w.drew → walkT P .any l.toArray Q S n (tailL P l.toArray Q n (l.drop n)) n s0.toArray a w.drew) : (Code.region id l.toArray true).wp P Q a w := by
  refine wp_region_tail (S := S) n hm hok hS fun hS' => ?_
  rw [hs]
  exact h hS'
end Go.Proofs.YtahbepajeplcmaaDoor

/- Contracts: rows of records and of strings in the law. -/
namespace Go.Proofs.YtahbepajeplcmaaDoor
open Go.RowKit

/-- A record in memory: four cells. -/
def rcEnc (r : Rec) : List Value := [.string (ms r.name), .int .i64 r.sys, .int .i64 r.size, .int .i64 r.extra]
def rcOk (r : Rec) : Prop := r.name.length ≤ 9223372036854775807 ∧ I64 r.sys ∧ I64 r.size ∧ I64 r.extra
abbrev rcTy : Ty Rec := Ty.flat 4 rcEnc rcOk (fun _ => rfl)
/-- The four cells of each record. -/
theorem row_rc {wr : Bool} {w : World} {v : Value} {xs : List Rec} {F : List Nat} (h : rcTy.row wr w v xs F) :
    ∃ a cap, v = .slice a xs.length cap ∧ xs.length ≤ cap ∧ cap ≤ 9223372036854775807 ∧ (∀ x ∈ xs, rcOk x) ∧
      ((xs = [] ∧ F = []) ∨ (xs ≠ [] ∧ ∃ b off, a = some ⟨b, off, none⟩ ∧ F = [b] ∧ ∀ j (hj : j < xs.length), cellIs wr w b (off + j * 4) (.string (ms xs[j].name)) ∧ cellIs wr w b (off + j * 4 + 1) (.int .i64 xs[j].sys) ∧ cellIs wr w b (off + j * 4 + 2) (.int .i64 xs[j].size) ∧ cellIs wr w b (off + j * 4 + 3) (.int .i64 xs[j].extra))) := by
  obtain ⟨a, cap, rfl, h1, h2, h3, h4⟩ := row_flat h
  refine ⟨a, cap, rfl, h1, h2, h3, h4.imp id ?_⟩
  rintro ⟨_, hne, b, off, rfl, rfl, hc⟩
  exact ⟨hne, b, off, rfl, rfl, fun j hj => ⟨hc j hj 0 _ rfl, by have := hc j hj 1 _ rfl; rwa [← Nat.add_assoc] at this, by have := hc j hj 2 _ rfl; rwa [← Nat.add_assoc] at this, by have := hc j hj 3 _ rfl; rwa [← Nat.add_assoc] at this⟩⟩
/-- A record as a value. -/
abbrev rcV (r : Rec) : Value := .agg #[.string (ms r.name), .int .i64 r.sys, .int .i64 r.size, .int .i64 r.extra]

/-- The size of a book, as the law reckons it. -/
def nameTo (xs : List Rec) (k : Nat) : Nat := ((xs.take k).map (fun r => r.name.length)).sum
def bulkR (xs : List Rec) : Nat := xs.length + nameTo xs xs.length
theorem nameTo_succ (xs : List Rec) (k : Nat) (hk : k < xs.length) : nameTo xs (k + 1) = nameTo xs k + xs[k].name.length := by
  unfold nameTo; rw [List.take_succ_eq_append_getElem hk, List.map_append, List.sum_append]; simp
theorem nameTo_le (xs : List Rec) (k : Nat) : nameTo xs k ≤ nameTo xs xs.length := by
  unfold nameTo
  rw [List.take_length]
  conv => rhs; rw [← List.take_append_drop k xs]
  rw [List.map_append, List.sum_append]; omega
theorem name_le {xs : List Rec} {k : Nat} (hk : k < xs.length) : xs[k].name.length ≤ bulkR xs := by
  have h1 := nameTo_succ xs k hk
  have h2 := nameTo_le xs (k + 1)
  unfold bulkR; omega
def szR (n : Int) (b : Nat) : Int := if n < (b : Int) then -1 else n - b
theorem szR_no {n : Int} {b : Nat} (h : n < (b : Int)) : szR n b = -1 := if_pos h
theorem szR_yes {n : Int} {b : Nat} (h : (b : Int) ≤ n) : szR n b = n - b := if_neg (by omega)

set_option maxHeartbeats 400000 in
theorem szRecord_any (s : ByteArray) (x y z : Int) (n : Int) (w : World) (h0 : 0 ≤ n) (h1 : n ≤ 1048576) (hs : s.size ≤ 9223372036854775807) :
    Calls Tryd.prog 14 #[.agg #[.string s, .int .i64 x, .int .i64 y, .int .i64 z], .int .i64 n] w fun e w' => e = .returned (.int .i64 (szR n s.size)) ∧ Below w.heap.size w w' := by
  by_cases hq : n < (s.size : Int)
  · have he := Lib.hid (szR_no hq)
    go_enter Tryd.func14, Tryd.ntmps14
    go_wp2
    go_ret
    exact ⟨ret_int he.out.symm, bal (bb _) _⟩
  · have he := Lib.hid (szR_yes (n := n) (b := s.size) (by omega))
    have hp : 0 ≤ n - s.size := by omega
    go_enter Tryd.func14, Tryd.ntmps14
    go_wp2
    go_ret
    exact ⟨ret_int he.out.symm, bal (bb _) _⟩

set_option maxHeartbeats 1000000 in
theorem szRecordS_any (v : Value) (xs : List Rec) (F : List Nat) (n : Int) (w : World) (hx : rcTy.row false w v xs F) (h0 : 0 ≤ n) (h1 : n ≤ 1048576) :
    Calls Tryd.prog 5 #[v, .int .i64 n] w fun e w' => e = .returned (.int .i64 (szR n (bulkR xs))) ∧ Below w.heap.size w w' := by
  obtain ⟨a, c, rfl, hx1, hx2, hg, hx3⟩ := row_rc hx
  by_cases hb : n < (xs.length : Int)
  · have hd : Hid (szR n (bulkR xs) = -1) := by unfold Hid bulkR; exact szR_no (by omega)
    rw [hd.out]
    go_enter Tryd.func5, Tryd.ntmps5
    go_wp2_with fail
    go_ret
    exact ⟨rfl, bb _⟩
  have hb' : 0 ≤ n - xs.length := by omega
  have hn1 : (xs.length : Int) ≤ 1048576 := by omega
  go_enter Tryd.func5, Tryd.ntmps5
  go_wp2_with fail
  go_loopw [1, 5] (fun m i wr => ∃ (k : Nat) (z : Int), k ≤ xs.length ∧ i = .int .i64 k ∧ m = .int .i64 z ∧ Hid (z = n - xs.length - nameTo xs k) ∧ 0 ≤ z ∧ z ≤ 1048576 ∧ Hid (Below w.heap.size w wr)) (fun _ i _ => xs.length - (intOf i).toNat)
  case atStart => exact ⟨0, n - xs.length, Nat.zero_le _, rfl, rfl, by simp [Hid, nameTo], hb', by omega, bb _⟩
  case round =>
    obtain ⟨k, z, hk, rfl, rfl, HZ, hz0, hz1, HB⟩ := hrel
    by_cases hlt : k < xs.length
    · rcases hx3 with ⟨rfl, rfl⟩ | ⟨hxn, b, off, rfl, rfl, hxc⟩
      · exact absurd hlt (by simp)
      obtain ⟨q0, q1, q2, q3⟩ := hxc k hlt
      have hk2 := HB.out.block b q0.lt
      have k0 := (q0.keep hk2).1
      have k1 := (q1.keep hk2).1
      have k2 := (q2.keep hk2).1
      have k3 := (q3.keep hk2).1
      have HS := Lib.hid (nameTo_succ xs k hlt)
      have HL := Lib.hid (nameTo_le xs (k + 1))
      have hok := (hg _ (List.getElem_mem hlt)).1
      have hsz : Hid ((ms xs[k].name).size = xs[k].name.length) := by unfold Hid; exact ms_size _
      clear q0 q1 q2 q3 hk2 hxc hg
      by_cases hs : z < (xs[k].name.length : Int)
      · have HF : Hid (szR n (bulkR xs) = -1) := by
          unfold Hid bulkR
          have h1 := HS.out; have h2 := HL.out; have h3 := HZ.out
          exact szR_no (by omega)
        have hsz2 := Lib.hid (szR_no (n := z) (b := (ms xs[k].name).size) (by rw [hsz.out]; exact hs))
        go_wp2_with fail
        refine (szRecord_any _ _ _ _ _ _ hz0 hz1 (by rw [hsz.out]; exact hok)).mono ?_
        rw [hsz2.out]
        rintro e w1 ⟨rfl, hb1⟩
        have HB2 := btr HB.out hb1
        go_wp2_with fail
        go_ret
        exact ⟨ret_int HF.out.symm, HB2⟩
      · have hs' : 0 ≤ z - xs[k].name.length := by omega
        have hsz2 : Hid (szR z (ms xs[k].name).size = z - xs[k].name.length) := by unfold Hid; rw [hsz.out]; exact szR_yes (by omega)
        have HZ2 : Hid (z - xs[k].name.length = n - xs.length - nameTo xs (k + 1)) := by unfold Hid; have h1 := HS.out; have h3 := HZ.out; omega
        go_wp2_with fail
        refine (szRecord_any _ _ _ _ _ _ hz0 hz1 (by rw [hsz.out]; exact hok)).mono ?_
        rw [hsz2.out]
        rintro e w1 ⟨rfl, hb1⟩
        have HB2 := Lib.hid (btr HB.out hb1)
        go_wp2_with fail
        go_roundw
        case rel => exact ⟨k + 1, z - xs[k].name.length, by omega, by go_num, rfl, HZ2, hs', by omega, HB2⟩
        case measure => simp [intOf]; omega
    · obtain rfl : k = xs.length := by omega
      have HF : Hid (szR n (bulkR xs) = z) := by
        unfold Hid bulkR
        have h3 := HZ.out
        rw [szR_yes (by omega)]; omega
      go_wp2_with fail
      go_ret
      exact ⟨ret_int HF.out.symm, HB.out⟩

set_option maxHeartbeats 400000 in
theorem toRecord_any (s : ByteArray) (x y z : Int) (w : World) :
    Calls Tryd.prog 17 #[.agg #[.string s, .int .i64 x, .int .i64 y, .int .i64 z]] w fun e w' => e = .returned (.agg #[.string s, .int .i64 x, .int .i64 y, .int .i64 z]) ∧ Below w.heap.size w w' := by
  go_enter Tryd.func17, Tryd.ntmps17
  go_wp2
  exact bodyPost_ret (v := .agg #[.string s, .int .i64 x, .int .i64 y, .int .i64 z]) (by simp [results, Tryd.results17, go_sem]) rfl ⟨rfl, (by repeat (first | exact bb _ | assumption | refine bal ?_ _ | refine bdr ?_ | refine bdn ?_ _ | refine bst ?_ (by simp <;> omega) _ | refine btr ?_ (by assumption)))⟩

set_option maxHeartbeats 400000 in
theorem eqRecord_same (s : ByteArray) (x y z : Int) (w : World) :
    Calls Tryd.prog 21 #[.agg #[.string s, .int .i64 x, .int .i64 y, .int .i64 z], .agg #[.string s, .int .i64 x, .int .i64 y, .int .i64 z]] w fun e w' => e = .returned (.bool true) ∧ Below w.heap.size w w' := by
  go_enter Tryd.func21, Tryd.ntmps21
  go_wp2
  go_ret
  exact ⟨rfl, (by repeat (first | exact bb _ | assumption | refine bal ?_ _ | refine bdr ?_ | refine bdn ?_ _ | refine bst ?_ (by simp <;> omega) _ | refine btr ?_ (by assumption)))⟩

set_option maxHeartbeats 1000000 in
theorem eqRecordS_same (v u : Value) (xs : List Rec) (F G : List Nat) (w : World) (hx : rcTy.row false w v xs F) (hy : rcTy.row false w u xs G) :
    Calls Tryd.prog 9 #[v, u] w fun e w' => e = .returned (.bool true) ∧ Below w.heap.size w w' := by
  obtain ⟨a, c, rfl, hx1, hx2, _, hx3⟩ := row_rc hx
  obtain ⟨a', c', rfl, hy1, hy2, _, hy3⟩ := row_rc hy
  go_enter Tryd.func9, Tryd.ntmps9
  go_wp2_with fail
  go_loopw [5] (fun i wr => ∃ k : Nat, k ≤ xs.length ∧ i = .int .i64 k ∧ Below w.heap.size w wr) (fun i _ => xs.length - (intOf i).toNat)
  case atStart => exact ⟨0, Nat.zero_le _, rfl, bb _⟩
  case round =>
    obtain ⟨k, hk, rfl, hB⟩ := hrel
    by_cases hlt : k < xs.length
    · rcases hx3 with ⟨rfl, rfl⟩ | ⟨hxn, b, off, rfl, rfl, hxc⟩
      · exact absurd hlt (by simp)
      rcases hy3 with ⟨rfl, rfl⟩ | ⟨hyn, b', off', rfl, rfl, hyc⟩
      · exact absurd hlt (by simp)
      obtain ⟨p0, p1, p2, p3⟩ := hxc k hlt
      obtain ⟨q0, q1, q2, q3⟩ := hyc k hlt
      have hp := hB.block b p0.lt
      have hq := hB.block b' q0.lt
      have k0 := cell_regrown (p0.keep hp).1
      have k1 := cell_regrown (p1.keep hp).1
      have k2 := cell_regrown (p2.keep hp).1
      have k3 := cell_regrown (p3.keep hp).1
      have m0 := cell_regrown (q0.keep hq).1
      have m1 := cell_regrown (q1.keep hq).1
      have m2 := cell_regrown (q2.keep hq).1
      have m3 := cell_regrown (q3.keep hq).1
      clear hxc hyc p0 p1 p2 p3 q0 q1 q2 q3 hp hq
      go_wp2_with fail
      refine wp_region_quiet_below (by kernel_rfl) (by kernel_rfl) ?_
      repeat (any_goals (first | go_big_quiet_step ((go_at_call 21; exact Calls.regrown_of (eqRecord_same _ _ _ _ _)))))
      refine wpQuiet_nil ?_
      rintro w1 ⟨p, rfl⟩
      go_wp2_with fail
      go_roundw
      case rel => exact ⟨k + 1, by omega, by go_num, hB.trans ((below_regrown _ _ _).mono hB.size)⟩
      case measure => simp [intOf]; omega
    · go_wp2_with fail
      go_ret
      exact ⟨rfl, hB⟩

theorem infoRc : (Tryd.prog.info? 38).map (fun i => (i.zero, i.size, i.bytes)) = some (some (.agg #[.string ByteArray.empty, .int .i64 0, .int .i64 0, .int .i64 0]), 4, 40) := by kernel_rfl
def rcZ : Rec := ⟨[], 0, 0, 0⟩

set_option maxHeartbeats 1000000 in
theorem toRecordS_any (v : Value) (xs : List Rec) (F : List Nat) (w : World) (hx : rcTy.row false w v xs F) (h1 : xs.length ≤ 100000000) :
    Calls Tryd.prog 7 #[v] w (OwnPost rcTy w xs) := by
  obtain ⟨i0, hi, hz0, hz1, hz2⟩ := info_parts infoRc
  obtain ⟨a, c, rfl, hx1, hx2, hxg, hx3⟩ := row_rc hx
  go_enter Tryd.func7, Tryd.ntmps7
  go_wp2_with (at_make; refine wpList_make_full _ rfl _ _ 24 rfl w.heap.size 38 i0 (.agg #[.string ByteArray.empty, .int .i64 0, .int .i64 0, .int .i64 0]) 4 Tryd.underlying24 hi hz0 hz1 .i64 .i64 _ _ xs.length rfl rfl rfl rfl ?m1 ?m2 ?m3 ?_)
  case m1 => rw [hz2]; omega
  case m2 => unfold maxLen; omega
  case m3 => exact Nat.le_refl _
  intro w1 hown hgrow
  have hst : Hid (FlatAt rcEnc 4 w.heap.size xs.length (filled xs rcZ 0) w1 ∧ Below w.heap.size w w1) := by
    rw [filled_zero]
    exact ⟨FlatAt.made (z := rcZ) (zc := #[.string ByteArray.empty, .int .i64 0, .int .i64 0, .int .i64 0]) rfl rfl hown, (bb w).grown hgrow (Nat.le_refl _) (fun k hk => by cases hk)⟩
  clear hown hgrow
  go_wp2_with fail
  go_loopw [4] (fun i wr => ∃ k : Nat, k ≤ xs.length ∧ i = .int .i64 k ∧ Hid (FlatAt rcEnc 4 w.heap.size xs.length (filled xs rcZ k) wr ∧ Below w.heap.size w wr)) (fun i _ => xs.length - (intOf i).toNat)
  case atStart => exact ⟨0, Nat.zero_le _, rfl, hst⟩
  case round =>
    obtain ⟨k, hk, rfl, HR⟩ := hrel
    by_cases hlt : k < xs.length
    · rcases hx3 with ⟨rfl, rfl⟩ | ⟨hxn, b, off, rfl, rfl, hxc⟩
      · exact absurd hlt (by simp)
      obtain ⟨p0, p1, p2, p3⟩ := hxc k hlt
      have hp := HR.out.2.block b p0.lt
      have k0 := (p0.keep hp).1
      have k1 := (p1.keep hp).1
      have k2 := (p2.keep hp).1
      have k3 := (p3.keep hp).1
      have hfs := Lib.hid (filled_succ xs rcZ k hlt)
      clear hxc hst p0 p1 p2 p3 hp
      generalize xs[k] = x at k0 k1 k2 k3 hfs
      obtain ⟨x1, x2, x3, x4⟩ := x
      go_wp2_with fail
      refine (toRecord_any _ _ _ _ _).mono ?_
      rintro e w2 ⟨rfl, hb2⟩
      have H2 := HR.out.1.grow hb2
      have z0 : (rcEnc (filled xs rcZ k k))[0]? = some (.string ByteArray.empty) := by simp only [filled, Nat.lt_irrefl, if_false]; rfl
      have z1 : (rcEnc (filled xs rcZ k k))[1]? = some (.int .i64 0) := by simp only [filled, Nat.lt_irrefl, if_false]; rfl
      have z2 : (rcEnc (filled xs rcZ k k))[2]? = some (.int .i64 0) := by simp only [filled, Nat.lt_irrefl, if_false]; rfl
      have z3 : (rcEnc (filled xs rcZ k k))[3]? = some (.int .i64 0) := by simp only [filled, Nat.lt_irrefl, if_false]; rfl
      have y0 := H2.cell hlt z0
      have y1 := H2.cell hlt z1
      have y2 := H2.cell hlt z2
      have y3 := H2.cell hlt z3
      have q0 := H2.frozen hlt z0
      have q1 := H2.frozen hlt z1
      have q2 := H2.frozen hlt z2
      have q3 := H2.frozen hlt z3
      rw [Nat.add_zero] at y0 q0
      have HN := H2.set4 (fun _ => rfl) (k := k) (x := ⟨x1, x2, x3, x4⟩) (u0 := .string (ms x1)) (u1 := .int .i64 x2) (u2 := .int .i64 x3) (u3 := .int .i64 x4) rfl
      rw [← hfs.out] at HN
      have HN2 := Lib.hid (And.intro HN (bst (bst (bst (bst (btr HR.out.2 hb2) (show w.heap.size ≤ (⟨w.heap.size, k * 4, none⟩ : Addr).block by simp) (.string (ms x1))) (show w.heap.size ≤ (⟨w.heap.size, k * 4 + 1, none⟩ : Addr).block by simp) (.int .i64 x2)) (show w.heap.size ≤ (⟨w.heap.size, k * 4 + 2, none⟩ : Addr).block by simp) (.int .i64 x3)) (show w.heap.size ≤ (⟨w.heap.size, k * 4 + 3, none⟩ : Addr).block by simp) (.int .i64 x4)))
      clear HR H2 HN z0 z1 z2 z3 hb2 k0 k1 k2 k3
      go_wp2_with fail
      go_roundw
      case rel => exact ⟨k + 1, by omega, by go_num, HN2⟩
      case measure => simp [intOf]; omega
    · obtain rfl : k = xs.length := by omega
      go_wp2_with fail
      go_ret
      by_cases hne : xs = []
      · subst hne
        exact ⟨_, [], rfl, Ty.row_nil _ _ _ _ _ (by simp), by simp, by simp, HR.out.2⟩
      · exact ⟨_, [w.heap.size], rfl, HR.out.1.done.row hxg (Nat.le_refl _) (by omega) hne (by decide), by simp, by simp, HR.out.2⟩
end Go.Proofs.YtahbepajeplcmaaDoor
