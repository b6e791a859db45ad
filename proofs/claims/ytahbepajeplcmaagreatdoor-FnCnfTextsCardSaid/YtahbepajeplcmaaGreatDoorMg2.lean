/- Lemmas and contracts for a law, put together out of several texts: SepB MemB OwnB CurS ClA ClB OpenA MemF CnfA CnfB ClC NwH. -/
import Derived.Test.YtahbepajeplcmaaGreatDoorMg1
import Derived.Test.YtahbepajeplcmaaGreatDoorProg
import Derived.WalkLawsBesides
import Derived.WalkSpells
import Derived.Lib.Hide
import Derived.ProofKit
import Derived.OpenShut
import Derived.Deep.Slices
import Derived.Deep.RegionHeld3
/- append onto an own row from any slice, empty or nil let in. No program in sight. -/
namespace Go.Proofs.YtahbepajeplcmaaGreatDoor
open Go.RowKit

/-- A slice whose cells are these; a nil or empty one has none. -/
def Src (w : World) (A : Option Addr) (m size : Nat) (news : List Value) : Prop :=
  (m = 0 ∧ news = []) ∨ ∃ ad, A = some ad ∧ news.length = m * size ∧ ∀ j u, news[j]? = some u → w.cell? (ad.add j) = some u

section
variable {P : Program} {w : World} {t ty e : TypeId} {i : TypeInfo} {z : Value} {size bytes : Nat}
theorem run_append_src (ht : P.underlying t = some (.slice e)) (hi : P.info? e = some i) (hz : i.zero = some z) (hsize : i.size = size) (hby : i.bytes = bytes) (hzs : z.cells.size = size) (hsz : 0 < size)
    (v : Value) (n : Nat) (xs : List Value) (hown : w.ownsRow 0 e size v n xs) (A : Option Addr) (m c : Nat) (news : List Value) (hsrc : Src w A m size news) (h1 : ∀ u ∈ news, u.oneCell' = true)
    (h63 : n + m ≤ maxLen) (hbytes : (n + m) * bytes ≤ 140737488355328) :
    ∃ v' w', (Builtin.append_ #[t, t] ty #[v, .slice A m c]).run P w = .ok v' w' ∧ w'.ownsRow 0 e size v' (n + m) (xs ++ news) ∧ w.grownBy w' v.ownBlock ∧ (v'.ownBlock = v.ownBlock ∨ v'.ownBlock = some w.heap.size) := by
  rcases hsrc with ⟨rfl, rfl⟩ | ⟨ad, ha, hl, hn⟩
  · cases A with
    | some ad =>
      obtain ⟨v', w', h2, h3, h4, _, h5⟩ := run_append_own_at (P := P) w 0 t ty e i z size bytes ht hi hz hsize hby hzs hsz v n xs hown ad 0 c [] (by simp) (by simp) h1 h63 hbytes (Nat.zero_le _)
      exact ⟨v', w', h2, h3, h4, h5⟩
    | none =>
      refine ⟨v, w, ?_, by simpa using hown, World.grownBy.refl w _, .inl rfl⟩
      obtain ⟨_, ⟨rfl, rfl⟩ | ⟨g, cap, cur, rfl, _, _, hn, _⟩⟩ := hown
      · simp [Builtin.append_, run_underlying ht, sizeOf, typeInfo, hi, Builtin.lenOf, Builtin.firstCells]
      · simp [Builtin.append_, run_underlying ht, sizeOf, typeInfo, hi, Builtin.lenOf, Builtin.firstCells, hn, storeCells]
  · subst ha
    obtain ⟨v', w', h2, h3, h4, _, h5⟩ := run_append_own_at (P := P) w 0 t ty e i z size bytes ht hi hz hsize hby hzs hsz v n xs hown ad m c news hl hn h1 h63 hbytes (Nat.zero_le _)
    exact ⟨v', w', h2, h3, h4, h5⟩
theorem wp_append_src {o : Oper} {a : Act} {K : Act → World → Prop} {Q : Exit → Act → World → Prop} (s x : Operand)
    (ho : o.op = .call { callee := .builtin .append, args := #[s, x], argTypes := #[t, t] })
    (ht : P.underlying t = some (.slice e)) (hi : P.info? e = some i) (hz : i.zero = some z) (hsize : i.size = size) (hby : i.bytes = bytes) (hzs : z.cells.size = size) (hsz : 0 < size)
    (v : Value) (n : Nat) (xs : List Value) (hs : a.eval s = v) (hown : w.ownsRow 0 e size v n xs) (A : Option Addr) (m c : Nat) (news : List Value) (hx : a.eval x = .slice A m c) (hsrc : Src w A m size news) (h1 : ∀ u ∈ news, u.oneCell' = true)
    (h63 : n + m ≤ maxLen) (hbytes : (n + m) * bytes ≤ 140737488355328)
    (h : ∀ v' w', w'.ownsRow 0 e size v' (n + m) (xs ++ news) → w.grownBy w' v.ownBlock → (v'.ownBlock = v.ownBlock ∨ v'.ownBlock = some w.heap.size) → K (a.put o.dst v') w') : o.wp P a w K Q := by
  obtain ⟨v', w', hr, h2, h3, h4⟩ := run_append_src (P := P) (w := w) (ty := o.type) ht hi hz hsize hby hzs hsz v n xs hown A m c news hsrc h1 h63 hbytes
  unfold Oper.wp execOp
  simp only [ho, resolve, invoke, builtin, Sem.run_bind, Sem.run_pure, Result.andThen_ok, List.map_toArray, List.map_cons, List.map_nil, hs, hx, hr]
  exact h v' w' h2 h3 h4
theorem wpList_append_src {ops : Array Oper} {rest : List Oper} {o : Oper} {a : Act} {Q : Exit → Act → World → Prop} (hgd : o.guard = none) (s x : Operand)
    (ho : o.op = .call { callee := .builtin .append, args := #[s, x], argTypes := #[t, t] })
    (ht : P.underlying t = some (.slice e)) (hi : P.info? e = some i) (hz : i.zero = some z) (hsize : i.size = size) (hby : i.bytes = bytes) (hzs : z.cells.size = size) (hsz : 0 < size)
    (v : Value) (n : Nat) (xs : List Value) (hs : a.eval s = v) (hown : w.ownsRow 0 e size v n xs) (A : Option Addr) (m c : Nat) (news : List Value) (hx : a.eval x = .slice A m c) (hsrc : Src w A m size news) (h1 : ∀ u ∈ news, u.oneCell' = true)
    (h63 : n + m ≤ maxLen) (hbytes : (n + m) * bytes ≤ 140737488355328)
    (h : ∀ v' w', w'.ownsRow 0 e size v' (n + m) (xs ++ news) → w.grownBy w' v.ownBlock → (v'.ownBlock = v.ownBlock ∨ v'.ownBlock = some w.heap.size) → wpList P ops Q rest (a.put o.dst v') w') : wpList P ops Q (o :: rest) a w :=
  wpList_plain hgd fun _ hK => wp_append_src s x ho ht hi hz hsize hby hzs hsz v n xs hs hown A m c news hx hsrc h1 h63 hbytes fun v' w' h2 h3 h4 => hK _ _ (h v' w' h2 h3 h4)
theorem step_append_src {ops : Array Oper} {o : Oper} {a : Act} {K : Act → World → Prop} {Q : Exit → Act → World → Prop} {E : Prop} (hgd : o.guard = none) (s x : Operand)
    (ho : o.op = .call { callee := .builtin .append, args := #[s, x], argTypes := #[t, t] })
    (ht : P.underlying t = some (.slice e)) (hi : P.info? e = some i) (hz : i.zero = some z) (hsize : i.size = size) (hby : i.bytes = bytes) (hzs : z.cells.size = size) (hsz : 0 < size)
    (v : Value) (n : Nat) (xs : List Value) (hs : a.eval s = v) (hown : w.ownsRow 0 e size v n xs) (A : Option Addr) (m c : Nat) (news : List Value) (hx : a.eval x = .slice A m c) (hsrc : Src w A m size news) (h1 : ∀ u ∈ news, u.oneCell' = true)
    (h63 : n + m ≤ maxLen) (hbytes : (n + m) * bytes ≤ 140737488355328)
    (h : ∀ v' w', w'.ownsRow 0 e size v' (n + m) (xs ++ news) → w.grownBy w' v.ownBlock → (v'.ownBlock = v.ownBlock ∨ v'.ownBlock = some w.heap.size) → K (a.put o.dst v') w') :
    if Region.wanted o (yielded ops a.tmps) = true then Oper.wp P o a w K Q else E := by
  have hw : Region.wanted o (yielded ops a.tmps) = true := by simp [Region.wanted, hgd]
  rw [if_pos hw]
  exact wp_append_src s x ho ht hi hz hsize hby hzs hsz v n xs hs hown A m c news hx hsrc h1 h63 hbytes h
end

theorem add_none (b off j : Nat) : (⟨b, off, none⟩ : Addr).add j = ⟨b, off + j, none⟩ := by unfold Addr.add; split <;> simp_all
theorem Src.one {w : World} {b : Nat} {x : Value} (h : w.cell? ⟨b, 0, none⟩ = some x) : Src w (some ⟨b, 0, none⟩) 1 1 [x] :=
  .inr ⟨_, rfl, rfl, fun j u hj => by
    match j, hj with
    | 0, hj => simp at hj; subst hj; rw [add_none]; exact h⟩
theorem Src.keep {w w' : World} {A : Option Addr} {m size : Nat} {news : List Value} (h : Src w A m size news) (hk : ∀ a, A = some a → ∀ o u, w.cell? (a.add o) = some u → w'.cell? (a.add o) = some u) : Src w' A m size news := by
  rcases h with h | ⟨ad, rfl, h1, h2⟩
  · exact .inl h
  · exact .inr ⟨ad, rfl, h1, fun j u hj => hk _ rfl j u (h2 j u hj)⟩
theorem Src.grow {w w' : World} {A : Option Addr} {m size : Nat} {news : List Value} (h : Src w A m size news) (hb : Below w.heap.size w w') : Src w' A m size news :=
  h.keep fun _ _ _ _ hc => (hb.cell (World.block_lt_of_cell? _ _ hc)).trans hc
/-- A row as a source. -/
theorem row_src {α : Type} {T : Ty α} {wr : Bool} {w : World} {v : Value} {xs : List α} {F : List Nat} (h : T.row wr w v xs F) : ∃ A c cs G, v = .slice A xs.length c ∧ T.all wr w cs xs G ∧ Src w A xs.length T.size cs ∧ (∀ b ∈ G, b ∈ F) := by
  obtain ⟨a, cap, cs, G, rfl, h1, h2, hall, ⟨rfl, rfl⟩ | ⟨hs, hne, b, off, rfl, rfl, hc⟩⟩ := h
  · obtain ⟨rfl, rfl⟩ := hall
    exact ⟨a, cap, [], [], rfl, ⟨rfl, rfl⟩, .inl ⟨rfl, rfl⟩, by simp⟩
  · refine ⟨_, cap, cs, G, rfl, hall, .inr ⟨_, rfl, Ty.all_len hall, fun j u hj => ?_⟩, fun x hx => List.mem_cons_of_mem _ hx⟩
    have hjl := (List.getElem?_eq_some_iff.1 hj).1
    rw [add_none, (hc j hjl).1, ← List.getElem?_eq_getElem hjl, hj]
theorem row_src_int {wr : Bool} {w : World} {v : Value} {xs : List Int} {F : List Nat} (h : Ty.int.row wr w v xs F) : ∃ A c, v = .slice A xs.length c ∧ Src w A xs.length 1 (xs.map (.int .i64)) := by
  obtain ⟨A, c, cs, G, rfl, hall, hs, _⟩ := row_src h
  obtain ⟨rfl, _, _⟩ := Ty.all_int_inv hall
  exact ⟨A, c, rfl, hs⟩

/-- Where a slice from k on lies. -/
def cutA (A : Option Addr) (cap k size : Nat) : Option Addr := if cap = k then A else A.map (·.add (k * size))
section
variable {P : Program} {T e : TypeId} {i : TypeInfo} {size : Nat} {ρ : Operand → Value} {o : Oper} {x y : Operand} {A : Option Addr} {len cap k : Nat} {w : World}
theorem exec_slice_to (ho : o.op = .slice T x none (some y) none) (hx : ρ x = .slice A len cap) (hy : ρ y = .int .i64 k) (hT : P.underlying T = some (.slice e)) (hi : P.info? e = some i) (hk : k ≤ cap) :
    (execOp ρ o).run P w = .ok (.value (.slice A k cap)) w := by
  have hb : (Instr.sliceBounds true len cap none (some (.int .i64 k)) none).run P w = .ok (0, k, cap) w := by
    simp [Instr.sliceBounds, run_sliceBound (P := P) w .i64 (k : Int) cap .sliceAcap (by omega) (by omega)]
  have hA : (if cap = 0 then A else A.map (·.add 0)) = A := by
    split
    · rfl
    · cases A <;> simp [Addr.add]
  unfold execOp
  simp [ho, hx, hy, Instr.sliceAt, run_underlying hT, Instr.slice, hb, sizeOf, typeInfo, hi, hA]
theorem exec_slice_from (ho : o.op = .slice T x (some y) none none) (hx : ρ x = .slice A len cap) (hy : ρ y = .int .i64 k) (hT : P.underlying T = some (.slice e)) (hi : P.info? e = some i) (hs : i.size = size) (hk : k ≤ len) :
    (execOp ρ o).run P w = .ok (.value (.slice (cutA A cap k size) (len - k) (cap - k))) w := by
  have hb : (Instr.sliceBounds true len cap (some (.int .i64 k)) none none).run P w = .ok (k, len, cap) w := by
    simp [Instr.sliceBounds, run_sliceBound (P := P) w .i64 (k : Int) len .sliceB (by omega) (by omega)]
  subst hs
  unfold execOp cutA
  simp [ho, hx, hy, Instr.sliceAt, run_underlying hT, Instr.slice, hb, sizeOf, typeInfo, hi]
end
theorem Src.to {w : World} {A : Option Addr} {m size k : Nat} {news : List Value} (h : Src w A m size news) (hk : k ≤ m) : Src w A k size (news.take (k * size)) := by
  rcases h with ⟨rfl, rfl⟩ | ⟨ad, rfl, h1, h2⟩
  · exact .inl ⟨by omega, by simp⟩
  · refine .inr ⟨ad, rfl, ?_, fun j u hj => ?_⟩
    · rw [List.length_take, h1]
      have := Nat.mul_le_mul_right size hk
      omega
    · rw [List.getElem?_take] at hj
      split at hj
      · exact h2 j u hj
      · cases hj
theorem Src.from {w : World} {b off cap : Nat} {m size k : Nat} {news : List Value} (h : Src w (some ⟨b, off, none⟩) m size news) (hk : k ≤ m) (hm : m ≤ cap) : Src w (cutA (some ⟨b, off, none⟩) cap k size) (m - k) size (news.drop (k * size)) := by
  rcases h with ⟨rfl, rfl⟩ | ⟨ad, e, h1, h2⟩
  · exact .inl ⟨by omega, by simp⟩
  · cases e
    unfold cutA
    by_cases hc : cap = k
    · obtain rfl : m = k := by omega
      exact .inl ⟨by omega, by rw [List.drop_eq_nil_of_le (by omega)]⟩
    · rw [if_neg hc]
      refine .inr ⟨_, rfl, by rw [List.length_drop, h1, Nat.sub_mul], fun j u hj => ?_⟩
      rw [List.getElem?_drop] at hj
      have := h2 _ u hj
      rw [add_none] at this
      show w.cell? (((⟨b, off, none⟩ : Addr).add (k * size)).add j) = some u
      rw [add_none, add_none, Nat.add_assoc]
      exact this
theorem Src.from_nil {w : World} {m cap size k : Nat} {news : List Value} (h : Src w none m size news) (hk : k ≤ m) : Src w (cutA none cap k size) (m - k) size (news.drop (k * size)) := by
  rcases h with ⟨rfl, rfl⟩ | ⟨ad, e, _⟩
  · exact .inl ⟨by omega, by simp⟩
  · cases e
end Go.Proofs.YtahbepajeplcmaaGreatDoor

/- Contracts: rows of ints in the laws: compared, marked, held, copied. -/
namespace Go.Proofs.YtahbepajeplcmaaGreatDoor
open Go.RowKit

/- left out: the seat has no laws.eqIntS -/

/-- What has been marked so far. -/
def MarkRel (b off : Nat) (m : Int) (xs : List Int) (k : Nat) (w wr : World) : Prop :=
  (∀ j (hj : j < xs.length), cellIs true wr b (off + j) (.int .i64 (if j < k then m + j else xs[j]))) ∧ Chg [b] w wr
theorem MarkRel.step {b off : Nat} {m : Int} {xs : List Int} {k : Nat} {w wr : World} (h : MarkRel b off m xs k w wr) (hk : k < xs.length) : MarkRel b off m xs (k + 1) w (wr.setCell ⟨b, off + k, none⟩ (.int .i64 (m + k))) := by
  refine ⟨fun j hj => ?_, h.2.set (by simp) _⟩
  have hc := h.1 j hj
  by_cases e : j = k
  · subst e
    refine ⟨?_, fun _ => ?_⟩
    · rw [if_pos (by omega)]; exact World.cell?_setCell_same' _ _ _ (by rw [hc.1]; rfl)
    · rw [World.frozen?_setCell]; exact hc.2 rfl
  · refine ⟨?_, fun _ => ?_⟩
    · rw [World.cell?_setCell_other wr _ _ _ (by simp only [ne_eq, Addr.mk.injEq]; omega)]
      rw [hc.1]
      by_cases h1 : j < k
      · rw [if_pos h1, if_pos (by omega)]
      · rw [if_neg h1, if_neg (by omega)]
    · rw [World.frozen?_setCell]; exact hc.2 rfl

def MarkPost {α : Type} (T : Ty α) (w : World) (v : Value) (k : Int) (ys : List α) (F : List Nat) (e : Ending) (w' : World) : Prop :=
  e = .returned (.int .i64 k) ∧ T.row true w' v ys F ∧ Chg F w w'

/- left out: the seat has no laws.markIntS -/

/-- What 'held' gives: past the last mark, or -1. -/
def heldOf (xs : List Int) (m : Int) : Int := if xs = marks m xs.length then m + xs.length else -1
theorem marks_snoc (m : Int) (n : Nat) : marks m (n + 1) = marks m n ++ [m + n] := by simp [marks, List.range_succ]

/- left out: the seat has no laws.heldIntS -/

/-- What 'to' gives: a row of its own with the same data. -/
def OwnPost {α : Type} (T : Ty α) (w : World) (xs : List α) (e : Ending) (w' : World) : Prop :=
  ∃ v F, e = .returned v ∧ T.row true w' v xs F ∧ F.Nodup ∧ (∀ b ∈ F, w.heap.size ≤ b) ∧ Below w.heap.size w w'

theorem infoInt : (Tryz.prog.info? 3).map (fun i => (i.zero, i.size, i.bytes)) = some (some (.int .i64 0), 1, 8) := by kernel_rfl

/-- What has been copied so far. -/
def CopyRel (xs : List Int) (k : Nat) (w wr : World) : Prop :=
  (∀ j (hj : j < xs.length), cellIs true wr w.heap.size (0 + j) (.int .i64 (if j < k then xs[j] else 0))) ∧ Below w.heap.size w wr
theorem CopyRel.step {xs : List Int} {k : Nat} {w wr : World} (h : CopyRel xs k w wr) (hk : k < xs.length) : CopyRel xs (k + 1) w (wr.setCell ⟨w.heap.size, k, none⟩ (.int .i64 xs[k])) := by
  refine ⟨fun j hj => ?_, h.2.setCell (by simp) _⟩
  have hc := h.1 j hj
  by_cases e : j = k
  · subst e
    refine ⟨?_, fun _ => ?_⟩
    · rw [if_pos (by omega), Nat.zero_add]; exact World.cell?_setCell_same' _ _ _ (by have := hc.1; rw [Nat.zero_add] at this; rw [this]; rfl)
    · rw [World.frozen?_setCell]; exact hc.2 rfl
  · refine ⟨?_, fun _ => ?_⟩
    · rw [World.cell?_setCell_other wr _ _ _ (by simp only [ne_eq, Addr.mk.injEq]; omega)]
      rw [hc.1]
      by_cases h1 : j < k
      · rw [if_pos h1, if_pos (by omega)]
      · rw [if_neg h1, if_neg (by omega)]
    · rw [World.frozen?_setCell]; exact hc.2 rfl

theorem hown_cell {w : World} {g n : Nat} {cur : Array Value} {e : TypeId} {fr : Nat × Nat} {cs : List Value} (hh : w.heap[g]? = some (.cells cur e fr)) (ht : cur.toList.take n = cs) {j : Nat} (hj : j < n) : w.cell? ⟨g, j, none⟩ = cs[j]? := by
  subst ht
  simp [World.cell?, hh, hj]

/- left out: the seat has no laws.toIntS -/
end Go.Proofs.YtahbepajeplcmaaGreatDoor

/- Own rows: their blocks, stores into them, parts in front. -/
namespace Go.Proofs.YtahbepajeplcmaaGreatDoor
open Go.RowKit

theorem owns_base {w : World} {B : Nat} {e : TypeId} {size : Nat} {v : Value} {n : Nat} {xs : List Value} (h : w.ownsRow 0 e size v n xs) (hB : ∀ g, v.ownBlock = some g → B ≤ g) : w.ownsRow B e size v n xs := by
  obtain ⟨hl, h | ⟨g, cap, cur, rfl, hg, r⟩⟩ := h
  · exact ⟨hl, .inl h⟩
  · exact ⟨hl, .inr ⟨g, cap, cur, rfl, hB g rfl, r⟩⟩
theorem owns_zero {w : World} {B : Nat} {e : TypeId} {size : Nat} {v : Value} {n : Nat} {xs : List Value} (h : w.ownsRow B e size v n xs) : w.ownsRow 0 e size v n xs := by
  obtain ⟨hl, h | ⟨g, cap, cur, rfl, hg, r⟩⟩ := h
  · exact ⟨hl, .inl h⟩
  · exact ⟨hl, .inr ⟨g, cap, cur, rfl, Nat.zero_le _, r⟩⟩
theorem owns_ge {w : World} {B : Nat} {e : TypeId} {size : Nat} {v : Value} {n : Nat} {xs : List Value} (h : w.ownsRow B e size v n xs) : ∀ g, v.ownBlock = some g → B ≤ g := by
  obtain ⟨hl, ⟨rfl, _⟩ | ⟨g, cap, cur, rfl, hg, r⟩⟩ := h
  · intro g hg; cases hg
  · intro g' hg'
    obtain rfl : g = g' := by simpa [Value.ownBlock] using hg'
    exact hg
/-- The row that a list of parts owns, at the end. -/
theorem Sp.owns_end {w0 w : World} {ps : List Asn} {i : Nat} {size n : Nat} {e : TypeId} {v : Value} {xs : List Value} (h : Sp w0 w ps) (hi : ps[i]? = some (Own e size v n xs)) : w.ownsRow w0.heap.size e size v n xs := by
  obtain ⟨F, ⟨rfl, h1⟩, h2⟩ := h.get hi
  exact owns_base h1 fun g hg => h2 g (by simp [hg])
theorem Sp.own_call {w0 w w' : World} {ps : List Asn} {size n : Nat} {e : TypeId} {v : Value} {xs : List Value} (h : Sp w0 w ps) (hb : Below w.heap.size w w') (ho : w'.ownsRow w.heap.size e size v n xs) : Sp w0 w' (Own e size v n xs :: ps) :=
  h.own_new hb (owns_zero ho) (owns_ge ho)
theorem sep_append : ∀ {qs ps : List Asn} {w : World} {F G : List Nat}, sep qs w F → sep ps w G → (∀ b ∈ F, b ∉ G) → sep (qs ++ ps) w (F ++ G)
  | [], ps, w, F, G, h, k, hd => by
    obtain rfl : F = [] := h
    exact k
  | q :: qs, ps, w, F, G, h, k, hd => by
    obtain ⟨F1, F2, rfl, h1, h2, h3⟩ := h
    refine ⟨F1, F2 ++ G, by rw [List.append_assoc], fun b hb hb2 => ?_, h2, sep_append h3 k fun b hb => hd b (List.mem_append.2 (.inr hb))⟩
    rcases List.mem_append.1 hb2 with h | h
    · exact h1 b hb h
    · exact hd b (List.mem_append.2 (.inl hb)) h
/-- Parts made by a call go in front. -/
theorem Sp.seq {w0 w w' : World} {ps qs : List Asn} (h : Sp w0 w ps) (k : Sp w w' qs) : Sp w0 w' (qs ++ ps) := by
  obtain ⟨h1, G, h2, h3⟩ := h
  obtain ⟨k1, F, k2, k3⟩ := k
  refine ⟨btr h1 k1, F ++ G, sep_append k2 (sep_keep h2 fun b hm => k1.block b (sep_lt h2 b hm)) (fun b hb hb2 => ?_), fun b hb => ?_⟩
  · have := k3 b hb; have := sep_lt h2 b hb2; omega
  · rcases List.mem_append.1 hb with h | h
    · have := k3 b h; have := h1.size; omega
    · exact h3 b h
theorem own_slice {w : World} {B : Nat} {e : TypeId} {size : Nat} {v : Value} {n : Nat} {xs : List Value} (h : w.ownsRow B e size v n xs) : ∃ a c, v = .slice a n c := by
  obtain ⟨_, ⟨rfl, rfl⟩ | ⟨g, cap, cur, rfl, _⟩⟩ := h
  · exact ⟨_, _, rfl⟩
  · exact ⟨_, _, rfl⟩
theorem own_from {w : World} {B : Nat} {e : TypeId} {size : Nat} {A : Option Addr} {n c : Nat} {k : Nat} {xs : List Value} (h : w.ownsRow B e size (.slice A n c) k xs) : ∀ a, A = some a → B ≤ a.block := by
  rintro a rfl
  exact owns_ge h a.block rfl
/-- An own row, told by its block. -/
theorem own_block {w : World} {B : Nat} {e : TypeId} {size : Nat} {v : Value} {n : Nat} {xs : List Value} (h : w.ownsRow B e size v n xs) (hn : 0 < n) :
    ∃ g cap cur, v = .slice (some ⟨g, 0, none⟩) n cap ∧ B ≤ g ∧ w.heap[g]? = some (.cells cur e (0, 0)) ∧ n ≤ cap ∧ cap ≤ maxLen ∧ cur.size = cap * size ∧ cur.toList.take (n * size) = xs := by
  obtain ⟨_, ⟨_, h0⟩ | h⟩ := h
  · omega
  · exact h
theorem own_at {w : World} {g : Nat} {cur : Array Value} {e : TypeId} {size n : Nat} {xs : List Value} (hh : w.heap[g]? = some (.cells cur e (0, 0))) (ht : cur.toList.take (n * size) = xs) {o : Nat} (ho : o < n * size) : w.cell? ⟨g, o, none⟩ = xs[o]? ∧ w.frozen? ⟨g, o, none⟩ = false :=
  ⟨hown_cell hh ht ho, by simp [World.frozen?, hh]⟩
/-- A store into an own row. -/
theorem Sp.own_put {w0 w : World} {ps : List Asn} {i g cap n size o : Nat} {e : TypeId} {xs : List Value} (h : Sp w0 w ps) (hi : ps[i]? = some (Own e size (.slice (some ⟨g, 0, none⟩) n cap) n xs)) (u : Value) (ho : o < n * size) :
    Sp w0 (w.setCell ⟨g, o, none⟩ u) (ps.set i (Own e size (.slice (some ⟨g, 0, none⟩) n cap) n (xs.set o u))) := by
  obtain ⟨F, ⟨rfl, hh⟩, hF, hall⟩ := h.upd hi
  have hlen := hh.1
  obtain ⟨g', cap', cur, e1, h0, hg, hn, hm, hc, ht⟩ := own_block hh (by
    rcases Nat.eq_zero_or_pos n with rfl | h
    · simp at ho
    · exact h)
  simp only [Value.slice.injEq, Option.some.injEq, Addr.mk.injEq] at e1
  obtain ⟨⟨rfl, _⟩, _, rfl⟩ := e1
  have hset : (w.setCell ⟨g, o, none⟩ u).heap[g]? = some (.cells (cur.setIfInBounds o u) e (0, 0)) := by
    simp [World.setCell, Array.getElem?_modify]
    exact ⟨_, hg, rfl⟩
  refine hall _ _ [g] ?_ ⟨rfl, by rw [List.length_set]; exact hlen, .inr ⟨g, cap, cur.setIfInBounds o u, rfl, Nat.zero_le _, hset, hn, hm, by rw [Array.size_setIfInBounds]; exact hc, ?_⟩⟩ fun b hb => .inl hb
  · exact ⟨rfl, rfl, rfl, by simp [World.setCell], fun k _ hn => Below.heap_setCell _ _ _ _ (by simpa [Value.ownBlock] using hn)⟩
  · rw [Array.toList_setIfInBounds, List.take_set, ht]
end Go.Proofs.YtahbepajeplcmaaGreatDoor

/- Memory in parts beside a cursor that turns. -/
namespace Go.Proofs.YtahbepajeplcmaaGreatDoor
open Go.RowKit

theorem ints_new {lo hi : Int} {W : World} {cs : Array Value} {t : TypeId} {b n : Nat} (hb : b = W.heap.size) (h : ∀ j, j < n → ∃ x, cs[j]? = some (.int .i64 x) ∧ lo ≤ x ∧ x ≤ hi) : ∀ j, j < n → ∃ x, lo ≤ x ∧ x ≤ hi ∧ (W.alloc (.cells cs t)).cell? ⟨b, 0 + j, none⟩ = some (.int .i64 x) := fun j hj => by
  obtain ⟨x, h1, h2, h3⟩ := h j hj
  subst hb
  refine ⟨x, h2, h3, ?_⟩
  rw [Nat.zero_add]
  exact (cell_of_row _ _ _ _ _ _ (heap_alloc_new W _)).trans h1
theorem CurPost.chg {R : Value → Prop} {A g : Nat} {ca : Option Addr} {cl cc : Nat} {w w1 : World} {e : Ending} {w' : World} (h : CurPost R A g ca cl cc w1 e w') (hc : Chg [g] w w1) : CurPost R A g ca cl cc w e w' := by
  obtain ⟨v, h1, h2, h3, h4⟩ := h
  exact ⟨v, h1, h2, h3, hc.trans h4⟩
theorem CurIs.stay {A A' g cl cc : Nat} {ca : Option Addr} {w W W' : World} (h : CurIs A g ca cl cc w) (hi : CurIs A' g ca cl cc W) (hk : ∀ k, k < w.heap.size → W'.heap[k]? = W.heap[k]?) : CurIs A' g ca cl cc W' := by
  have hg := h.lt
  have hl := h.code
  obtain ⟨⟨i, s, h1, h2⟩, h3, h4, h5⟩ := hi
  refine ⟨⟨i, s, (hk g hg).trans h1, h2⟩, ?_, h4, h5⟩
  rcases Nat.eq_zero_or_pos cl with rfl | hp
  · exact .zero _ _
  · exact h3.keep fun a ha => hk _ (hl.lt hp a ha)

/-- Parts of the call's own, beside a cursor g that was there. -/
def CS (w0 : World) (g : Nat) (ca : Option Addr) (cl cc A : Nat) (w : World) (ps : List Asn) : Prop :=
  (∃ A0, CurIs A0 g ca cl cc w0) ∧ CurIs A g ca cl cc w ∧ Chg [g] w0 w ∧ ∃ F, sep ps w F ∧ ∀ b ∈ F, w0.heap.size ≤ b
section
variable {w0 w w' w1 : World} {g cl cc A A' i b o n n' size : Nat} {ca : Option Addr} {ps : List Asn} {q : Asn} {t e : TypeId} {cs : Array Value} {v v' : Value} {xs xs' : List Value}
theorem CS.start (h : CurIs A g ca cl cc w) : CS w g ca cl cc A w [] := ⟨⟨A, h⟩, h, Chg.refl _ _, [], rfl, by simp⟩
theorem CS.cur (h : CS w0 g ca cl cc A w ps) : CurIs A g ca cl cc w := h.2.1
theorem CS.chg (h : CS w0 g ca cl cc A w ps) : Chg [g] w0 w := h.2.2.1
theorem CS.glt (h : CS w0 g ca cl cc A w ps) : g < w0.heap.size := by obtain ⟨⟨A0, h0⟩, _⟩ := h; exact h0.lt
theorem CS.mono (h : CS w0 g ca cl cc A w ps) (hA : A ≤ A') : CS w0 g ca cl cc A' w ps := ⟨h.1, h.2.1.mono hA, h.2.2⟩
theorem CS.turn (h : CS w0 g ca cl cc A w ps) (hi : CurIs A' g ca cl cc w') (hc : Chg [g] w w') : CS w0 g ca cl cc A' w' ps := by
  have hg := h.glt
  obtain ⟨h0, h1, h2, F, h3, h4⟩ := h
  exact ⟨h0, hi, h2.trans hc, F, sep_keep h3 fun b hm => hc.block b (sep_lt h3 b hm) fun hb => by
    obtain rfl : b = g := by simpa using hb
    have := h4 b hm; omega, h4⟩
theorem CS.grow (h : CS w0 g ca cl cc A w ps) (hb : Below w.heap.size w w') : CS w0 g ca cl cc A w' ps := by
  obtain ⟨h0, h1, h2, F, h3, h4⟩ := h
  exact ⟨h0, h1.grow hb, h2.then hb, F, sep_keep h3 fun b hm => hb.block b (sep_lt h3 b hm), h4⟩
theorem CS.new {F : List Nat} (h : CS w0 g ca cl cc A w ps) (hb : Below w.heap.size w w') (hq : q.p w' F) (hF : ∀ b ∈ F, w.heap.size ≤ b) : CS w0 g ca cl cc A w' (q :: ps) := by
  have hsz := h.chg.size
  obtain ⟨h0, h1, h2, F', h3, h4⟩ := h
  refine ⟨h0, h1.grow hb, h2.then hb, F ++ F', ⟨F, F', rfl, fun b hm hm2 => ?_, hq, sep_keep h3 fun b hm => hb.block b (sep_lt h3 b hm)⟩, fun b hm => ?_⟩
  · have := hF b hm; have := sep_lt h3 b hm2; omega
  · rcases List.mem_append.1 hm with hm | hm
    · have := hF b hm; omega
    · exact h4 b hm
theorem CS.upd (h : CS w0 g ca cl cc A w ps) (hi : ps[i]? = some q) : ∃ Fi, q.p w Fi ∧ (∀ b ∈ Fi, w0.heap.size ≤ b) ∧
    ∀ w' q' Fi', Chg Fi w w' → q'.p w' Fi' → (∀ b ∈ Fi', b ∈ Fi ∨ w.heap.size ≤ b) → CS w0 g ca cl cc A w' (ps.set i q') := by
  have hsz := h.chg.size
  obtain ⟨h0, h1, h2, F, h3, h4⟩ := h
  obtain ⟨Fi, hp, hsub, hall⟩ := sep_upd h3 hi
  refine ⟨Fi, hp, fun b hb => h4 b (hsub b hb), fun w' q' Fi' hc hq hF => ?_⟩
  obtain ⟨F', hs, hF'⟩ := hall w' q' Fi' hc hq hF
  have hk : ∀ k, k < w0.heap.size → w'.heap[k]? = w.heap[k]? := fun k hk => hc.block k (Nat.lt_of_lt_of_le hk hsz) fun hm => by have := h4 k (hsub k hm); omega
  obtain ⟨A0, h0'⟩ := h0
  exact ⟨⟨A0, h0'⟩, h0'.stay h1 hk, ⟨hc.os.trans h2.os, hc.tape.trans h2.tape, hc.output.trans h2.output, Nat.le_trans h2.size hc.size, fun k hk' hn => (hk k hk').trans (h2.block k hk' hn)⟩, F', hs, fun b hb => (hF' b hb).elim (h4 b) (Nat.le_trans hsz)⟩
theorem CS.get (h : CS w0 g ca cl cc A w ps) (hi : ps[i]? = some q) : ∃ Fi, q.p w Fi ∧ (∀ b ∈ Fi, w0.heap.size ≤ b) := by
  obtain ⟨Fi, h1, h2, _⟩ := h.upd hi
  exact ⟨Fi, h1, h2⟩
theorem CS.tail (h : CS w0 g ca cl cc A w (q :: ps)) : CS w0 g ca cl cc A w ps := by
  obtain ⟨h0, h1, h2, F, ⟨F1, F2, rfl, _, _, h3⟩, h4⟩ := h
  exact ⟨h0, h1, h2, F2, h3, fun b hb => h4 b (List.mem_append.2 (.inr hb))⟩
theorem CS.swap {q' : Asn} (h : CS w0 g ca cl cc A w (q :: q' :: ps)) : CS w0 g ca cl cc A w (q' :: q :: ps) := by
  obtain ⟨h0, h1, h2, F, ⟨F1, F2, rfl, hd, hq, F3, F4, rfl, hd2, hq', h3⟩, h4⟩ := h
  refine ⟨h0, h1, h2, F3 ++ (F1 ++ F4), ⟨F3, F1 ++ F4, rfl, fun b hb hb2 => ?_, hq', F1, F4, rfl, fun b hb hb2 => hd b hb (List.mem_append.2 (.inr hb2)), hq, h3⟩, fun b hb => ?_⟩
  · rcases List.mem_append.1 hb2 with hb2 | hb2
    · exact hd b hb2 (List.mem_append.2 (.inl hb))
    · exact hd2 b hb hb2
  · apply h4
    simp only [List.mem_append] at hb ⊢
    rcases hb with h | h | h
    · exact .inr (.inl h)
    · exact .inl h
    · exact .inr (.inr h)
theorem CS.third {q1 q2 q3 : Asn} (h : CS w0 g ca cl cc A w (q1 :: q2 :: q3 :: ps)) : CS w0 g ca cl cc A w (q1 :: q2 :: ps) := by
  obtain ⟨h0, h1, h2, F, ⟨F1, F2, rfl, hd, hq, F3, F4, rfl, hd2, hq', F5, F6, rfl, hd3, hq3, h3⟩, h4⟩ := h
  refine ⟨h0, h1, h2, F1 ++ (F3 ++ F6), ⟨F1, F3 ++ F6, rfl, fun b hb hb2 => hd b hb ?_, hq, F3, F6, rfl, fun b hb hb2 => hd2 b hb (List.mem_append.2 (.inr hb2)), hq', h3⟩, fun b hb => h4 b ?_⟩
  · rcases List.mem_append.1 hb2 with h | h
    · exact List.mem_append.2 (.inl h)
    · exact List.mem_append.2 (.inr (List.mem_append.2 (.inr h)))
  · simp only [List.mem_append] at hb ⊢
    rcases hb with h | h | h
    · exact .inl h
    · exact .inr (.inl h)
    · exact .inr (.inr (.inr h))
/-- The second part is let go. -/
theorem CS.third2 {q1 q2 : Asn} (h : CS w0 g ca cl cc A w (q1 :: q2 :: ps)) : CS w0 g ca cl cc A w (q1 :: ps) := h.swap.tail
theorem CS.drew (h : CS w0 g ca cl cc A w ps) : CS w0 g ca cl cc A w.drew ps := h.grow (bdr (bb _))
theorem CS.alloc (h : CS w0 g ca cl cc A w ps) (o : Obj) : CS w0 g ca cl cc A (w.alloc o) ps := h.grow (bal (bb _) o)
theorem CS.alloc_box (h : CS w0 g ca cl cc A w ps) (cs : Array Value) (t : TypeId) : CS w0 g ca cl cc A (w.alloc (.cells cs t)) (Box w.heap.size t cs :: ps) :=
  h.new (bal (bb _) _) (F := [w.heap.size]) ⟨rfl, heap_alloc_new w _⟩ (by simp)
theorem CS.box (h : CS w0 g ca cl cc A w ps) (hi : ps[i]? = some (Box b t cs)) : w0.heap.size ≤ b ∧ b < w.heap.size ∧ w.heap[b]? = some (.cells cs t (0, 0)) := by
  obtain ⟨F, hp, hF⟩ := h.get hi
  have hlt := (Box b t cs).lt hp b
  obtain ⟨rfl, hh⟩ := hp
  exact ⟨hF b (by simp), hlt (by simp), hh⟩
theorem CS.cell (h : CS w0 g ca cl cc A w ps) (hi : ps[i]? = some (Box b t cs)) {u : Value} (ho : cs[o]? = some u) : w.cell? ⟨b, o, none⟩ = some u := by
  simp [World.cell?, (h.box hi).2.2, ho]
theorem CS.frozen (h : CS w0 g ca cl cc A w ps) (hi : ps[i]? = some (Box b t cs)) (o : Nat) : w.frozen? ⟨b, o, none⟩ = false := by
  simp [World.frozen?, (h.box hi).2.2]
theorem CS.store (h : CS w0 g ca cl cc A w ps) (hi : ps[i]? = some (Box b t cs)) (o : Nat) (u : Value) : CS w0 g ca cl cc A (w.setCell ⟨b, o, none⟩ u) (ps.set i (Box b t (cs.setIfInBounds o u))) := by
  obtain ⟨Fi, ⟨rfl, hh⟩, hF, hall⟩ := h.upd hi
  exact hall _ (Box b t (cs.setIfInBounds o u)) [b] ((Chg.refl _ _).set (by simp) _) ⟨rfl, by simp [World.setCell, Array.getElem?_modify, hh]⟩ fun b hb => .inl hb
theorem CS.own (h : CS w0 g ca cl cc A w ps) (hi : ps[i]? = some (Own e size v n xs)) : w.ownsRow 0 e size v n xs := by
  obtain ⟨F, hp, _⟩ := h.get hi
  exact hp.2
theorem CS.owns_end (h : CS w0 g ca cl cc A w ps) (hi : ps[i]? = some (Own e size v n xs)) : w.ownsRow w0.heap.size e size v n xs := by
  obtain ⟨F, ⟨rfl, h1⟩, h2⟩ := h.get hi
  exact owns_base h1 fun g hg => h2 g (by simp [hg])
theorem CS.own_new (h : CS w0 g ca cl cc A w ps) (hb : Below w.heap.size w w') (ho : w'.ownsRow 0 e size v n xs) (hv : ∀ g, v.ownBlock = some g → w.heap.size ≤ g) : CS w0 g ca cl cc A w' (Own e size v n xs :: ps) :=
  h.new hb (F := v.ownBlock.toList) ⟨rfl, ho⟩ fun b hm => hv b (by simpa using hm)
theorem CS.own_made (h : CS w0 g ca cl cc A w ps) (e : TypeId) (size : Nat) : CS w0 g ca cl cc A (w.alloc (.cells #[] e)) (Own e size (.slice (some ⟨w.heap.size, 0, none⟩) 0 0) 0 [] :: ps) :=
  h.own_new (bal (bb _) _) ⟨by simp, .inr ⟨w.heap.size, 0, #[], rfl, Nat.zero_le _, heap_alloc_new w _, Nat.le_refl _, by decide, by simp, by simp⟩⟩ (fun g hg => by
    have : w.heap.size = g := by simpa [Value.ownBlock] using hg
    omega)
theorem CS.own_push (h : CS w0 g ca cl cc A w ps) (hi : ps[i]? = some (Own e size v n xs)) (hb : Below w.heap.size w w1) (ho : w'.ownsRow 0 e size v' n' xs') (hg : w1.grownBy w' v.ownBlock)
    (hat : v'.ownBlock = v.ownBlock ∨ v'.ownBlock = some w1.heap.size) : CS w0 g ca cl cc A w' (ps.set i (Own e size v' n' xs')) := by
  obtain ⟨F, ⟨rfl, hh⟩, hF, hall⟩ := h.upd hi
  refine hall w' _ v'.ownBlock.toList ?_ ⟨rfl, ho⟩ fun b hm => ?_
  · exact ⟨hg.os.trans hb.os, hg.tape.trans hb.tape, hg.output.trans hb.output, Nat.le_trans hb.size hg.size, fun k hk hn =>
      (hg.block k (Nat.lt_of_lt_of_le hk hb.size) (fun e => hn (by simp [← e]))).trans (hb.block k hk)⟩
  · rcases hat with h1 | h1
    · exact .inl (by rw [h1] at hm; exact hm)
    · rw [h1] at hm
      obtain rfl : b = w1.heap.size := by simpa using hm
      exact .inr hb.size
/-- A store into an own row. -/
theorem CS.own_put {cap : Nat} {gx : Nat} (h : CS w0 g ca cl cc A w ps) (hi : ps[i]? = some (Own e size (.slice (some ⟨gx, 0, none⟩) n cap) n xs)) (u : Value) (ho : o < n * size) :
    CS w0 g ca cl cc A (w.setCell ⟨gx, o, none⟩ u) (ps.set i (Own e size (.slice (some ⟨gx, 0, none⟩) n cap) n (xs.set o u))) := by
  obtain ⟨F, ⟨rfl, hh⟩, hF, hall⟩ := h.upd hi
  have hlen := hh.1
  obtain ⟨g', cap', cur, e1, h0, hg, hn, hm, hc, ht⟩ := own_block hh (by
    rcases Nat.eq_zero_or_pos n with rfl | h
    · simp at ho
    · exact h)
  simp only [Value.slice.injEq, Option.some.injEq, Addr.mk.injEq] at e1
  obtain ⟨⟨rfl, _⟩, _, rfl⟩ := e1
  have hset : (w.setCell ⟨gx, o, none⟩ u).heap[gx]? = some (.cells (cur.setIfInBounds o u) e (0, 0)) := by
    simp [World.setCell, Array.getElem?_modify]
    exact ⟨_, hg, rfl⟩
  refine hall _ _ [gx] ?_ ⟨rfl, by rw [List.length_set]; exact hlen, .inr ⟨gx, cap, cur.setIfInBounds o u, rfl, Nat.zero_le _, hset, hn, hm, by rw [Array.size_setIfInBounds]; exact hc, ?_⟩⟩ fun b hb => .inl hb
  · exact ⟨rfl, rfl, rfl, by simp [World.setCell], fun k _ hn => Below.heap_setCell _ _ _ _ (by simpa [Value.ownBlock] using hn)⟩
  · rw [Array.toList_setIfInBounds, List.take_set, ht]
/-- Parts of a call's own go in front. -/
theorem CS.seq {qs : List Asn} (h : CS w0 g ca cl cc A w ps) (k : Sp w w' qs) : CS w0 g ca cl cc A w' (qs ++ ps) := by
  have hsz := h.chg.size
  obtain ⟨h0, h1, h2, G, h3, h4⟩ := h
  obtain ⟨k1, F, k2, k3⟩ := k
  refine ⟨h0, h1.grow k1, h2.then k1, F ++ G, sep_append k2 (sep_keep h3 fun b hm => k1.block b (sep_lt h3 b hm)) (fun b hb hb2 => ?_), fun b hb => ?_⟩
  · have := k3 b hb; have := sep_lt h3 b hb2; omega
  · rcases List.mem_append.1 hb with hm | hm
    · have := k3 b hm; omega
    · exact h4 b hm
end
end Go.Proofs.YtahbepajeplcmaaGreatDoor

/- Contracts: literals and clauses, in the reference and in the program. -/
namespace Go.Proofs.YtahbepajeplcmaaGreatDoor
open Go.RowKit

theorem same_below {P : Program} {f : FuncId} {args : Array Value} {w : World} {v : Value} (h : Calls P f args w fun e w' => e = .returned v ∧ w = w') : Calls P f args w fun e w' => e = .returned v ∧ Below w.heap.size w w' :=
  h.mono fun _ _ ⟨h1, h2⟩ => ⟨h1, h2 ▸ bb _⟩

/-- A negated int, as Go negates. -/
def negV (l : Int) : Int := wrap64 (-l)
theorem negV_small {l : Int} (h : I64 l) (h1 : l ≠ -9223372036854775808) : negV l = -l := by
  unfold negV I64 at *
  unfold wrap64
  omega
/-- The variable of a literal. -/
def absV (l : Int) : Int := if l < 0 then negV l else l
/-- A literal of so many variables. -/
def litB (vars l : Int) : Bool := inB l (negV vars) vars && (l != 0)
/-- Place i of a clause is as it must be. -/
def cOk (vars : Int) (c : List Int) (i : Nat) : Bool := litB vars (c.getD i 0) && (i == 0 || decide (absV (c.getD (i - 1) 0) < absV (c.getD i 0)))
def cOkTo (vars : Int) (c : List Int) (k : Nat) : Bool := (List.range k).all (cOk vars c)
theorem cOkTo_succ (vars : Int) (c : List Int) (k : Nat) : cOkTo vars c (k + 1) = (cOkTo vars c k && cOk vars c k) := by simp [cOkTo, List.range_succ]
/-- A valid clause. -/
def clauseB (vars : Int) (c : List Int) : Bool := inB vars 0 12 && cOkTo vars c c.length
theorem cOkTo_le {vars : Int} {c : List Int} {k : Nat} (hk : k ≤ c.length) (h : cOkTo vars c k = false) : cOkTo vars c c.length = false := by
  obtain ⟨d, hd⟩ : ∃ d, c.length = k + d := ⟨c.length - k, by omega⟩
  rw [hd]
  clear hd hk
  induction d with
  | zero => exact h
  | succ d ih => rw [← Nat.add_assoc, cOkTo_succ, ih]; rfl

set_option maxHeartbeats 400000 in
theorem l2Var_any (l : Int) (w : World) : Calls Tryz.prog 145 #[.int .i64 l] w fun e w' => e = .returned (.int .i64 (absV l)) ∧ w = w' := by
  by_cases h : l < 0
  · have hd : Hid (absV l = wrap64 (-l)) := if_pos h
    go_enter Tryz.func145, Tryz.ntmps145
    go_wp2
    go_ret
    exact ⟨ret_int hd.out.symm, rfl⟩
  · have hd : Hid (absV l = l) := if_neg h
    go_enter Tryz.func145, Tryz.ntmps145
    go_wp2
    go_ret
    exact ⟨ret_int hd.out.symm, rfl⟩

set_option maxHeartbeats 400000 in
theorem l2Vars_any (v : Int) (w : World) : Calls Tryz.prog 109 #[.int .i64 v] w fun e w' => e = .returned (.bool (inB v 0 12)) ∧ w = w' := by
  go_enter Tryz.func109, Tryz.ntmps109
  go_wp2_with (go_at_call 88; refine (l1In_any _ _ _ _).mono ?_; rintro e w1 ⟨rfl, rfl⟩)
  go_ret
  exact ⟨rfl, rfl⟩
set_option maxHeartbeats 400000 in
theorem varsOk_any (v : Int) (w : World) : Calls Tryz.prog 85 #[.int .i64 v] w fun e w' => e = .returned (.bool (inB v 0 12)) ∧ w = w' := by
  go_enter Tryz.func85, Tryz.ntmps85
  go_wp2_with (go_at_call 57; refine (within_any _ _ _ _).mono ?_; rintro e w1 ⟨rfl, rfl⟩)
  go_ret
  exact ⟨rfl, rfl⟩

set_option maxHeartbeats 400000 in
theorem l2Lit_any (v l : Int) (w : World) : Calls Tryz.prog 80 #[.int .i64 v, .int .i64 l] w fun e w' => e = .returned (.bool (litB v l)) ∧ w = w' := by
  have hd : Hid (litB v l = (inB l (wrap64 (-v)) v && (l != 0))) := rfl
  go_enter Tryz.func80, Tryz.ntmps80
  go_wp2_with (go_at_call 88; refine (l1In_any _ _ _ _).mono ?_; rintro e w1 ⟨rfl, rfl⟩)
  all_goals go_ret
  all_goals exact ⟨ret_bool (by rw [hd.out]; simp [*] <;> rfl), rfl⟩
set_option maxHeartbeats 400000 in
theorem isLiteral_any (v l : Int) (w : World) : Calls Tryz.prog 76 #[.int .i64 v, .int .i64 l] w fun e w' => e = .returned (.bool (litB v l)) ∧ w = w' := by
  have hd : Hid (litB v l = (inB l (wrap64 (-v)) v && (l != 0))) := rfl
  go_enter Tryz.func76, Tryz.ntmps76
  go_wp2_with (go_at_call 57; refine (within_any _ _ _ _).mono ?_; rintro e w1 ⟨rfl, rfl⟩)
  all_goals go_ret
  · rename_i h
    subst h
    exact ⟨ret_bool (by rw [hd.out]; simp), rfl⟩
  · exact ⟨ret_bool (by rw [hd.out]; exact Bool.and_comm _ _), rfl⟩
set_option maxHeartbeats 400000 in
theorem abs_any (l : Int) (w : World) (hl : I64 l) : Calls Tryz.prog 84 #[.int .i64 l] w fun e w' => e = .returned (.int .i64 (absV l)) ∧ w = w' := by
  have hd : Hid (absV l = if l < wrap64 (-l) then wrap64 (-l) else l) := by
    unfold Hid absV negV
    unfold I64 at hl
    unfold wrap64
    split <;> split <;> omega
  go_enter Tryz.func84, Tryz.ntmps84
  by_cases h : l < wrap64 (-l)
  · go_wp2
    go_ret
    exact ⟨ret_int (by first | (rw [hd.out, if_pos h]; done) | (rw [hd.out, if_pos h]; exact Int.max_eq_right (Int.le_of_lt h))), rfl⟩
  · go_wp2
    go_ret
    exact ⟨ret_int (by first | (rw [hd.out, if_neg (Int.not_lt.mpr h)]; done) | (rw [hd.out, if_neg (by omega)]; exact Int.max_eq_left (by omega))), rfl⟩
end Go.Proofs.YtahbepajeplcmaaGreatDoor

/- Contracts: clauses, in the reference and in the program. -/
namespace Go.Proofs.YtahbepajeplcmaaGreatDoor
open Go.RowKit

theorem l2Lit_at {v l : Int} {q : Bool} (h : litB v l = q) (w : World) : Calls Tryz.prog 80 #[.int .i64 v, .int .i64 l] w fun e w' => e = .returned (.bool q) ∧ Below w.heap.size w w' := h ▸ same_below (l2Lit_any v l w)
theorem isLiteral_at {v l : Int} {q : Bool} (h : litB v l = q) (w : World) : Calls Tryz.prog 76 #[.int .i64 v, .int .i64 l] w fun e w' => e = .returned (.bool q) ∧ Below w.heap.size w w' := h ▸ same_below (isLiteral_any v l w)
theorem l2Var_at {l x : Int} (h : absV l = x) (w : World) : Calls Tryz.prog 145 #[.int .i64 l] w fun e w' => e = .returned (.int .i64 x) ∧ Below w.heap.size w w' := h ▸ same_below (l2Var_any l w)
theorem abs_at {l x : Int} (hl : I64 l) (h : absV l = x) (w : World) : Calls Tryz.prog 84 #[.int .i64 l] w fun e w' => e = .returned (.int .i64 x) ∧ Below w.heap.size w w' := h ▸ same_below (abs_any l w hl)

theorem cOk_zero (vars : Int) (c : List Int) (h : 0 < c.length) : cOk vars c 0 = litB vars c[0] := by simp [cOk, List.getD_eq_getElem?_getD, List.getElem?_eq_getElem h]
theorem cOk_succ (vars : Int) (c : List Int) (k : Nat) (h : k + 1 < c.length) : cOk vars c (k + 1) = (litB vars c[k + 1] && decide (absV (c[k]'(by omega)) < absV c[k + 1])) := by
  simp [cOk, List.getD_eq_getElem?_getD, List.getElem?_eq_getElem h, List.getElem?_eq_getElem (show k < c.length by omega)]
theorem clause_no {vars : Int} {c : List Int} {k : Nat} (hk : k < c.length) (h : cOk vars c k = false) : clauseB vars c = false := by
  unfold clauseB
  rw [cOkTo_le (k := k + 1) hk (by rw [cOkTo_succ, h, Bool.and_false]), Bool.and_false]
theorem clause_step {vars : Int} {c : List Int} {k : Nat} (h0 : cOkTo vars c k = true) (h : cOk vars c k = true) : cOkTo vars c (k + 1) = true := by rw [cOkTo_succ, h0, h]; rfl

set_option maxHeartbeats 1000000 in
theorem l2Clause_any (vars : Int) (v : Value) (c : List Int) (F : List Nat) (w : World) (hx : Ty.int.row false w v c F) :
    Calls Tryz.prog 79 #[.int .i64 vars, v] w fun e w' => e = .returned (.bool (clauseB vars c)) ∧ Below w.heap.size w w' := by
  obtain ⟨a, cap, rfl, hx1, hx2, hxI, hx3⟩ := row_int hx
  cases hv : inB vars 0 12
  · have hd : Hid (clauseB vars c = false) := by unfold Hid clauseB; rw [hv]; rfl
    go_enter Tryz.func79, Tryz.ntmps79
    go_wp2_with (go_at_call 109; refine (l2Vars_any _ _).mono ?_; rw [hv]; rintro e w1 ⟨rfl, rfl⟩)
    go_ret
    exact ⟨ret_bool hd.out.symm, bb _⟩
  have hd : Hid (clauseB vars c = cOkTo vars c c.length) := by unfold Hid clauseB; rw [hv]; rfl
  go_enter Tryz.func79, Tryz.ntmps79
  go_wp2_with (go_at_call 109; refine (l2Vars_any _ _).mono ?_; rw [hv]; rintro e w1 ⟨rfl, rfl⟩)
  go_loopw [5] (fun i wr => ∃ k : Nat, k ≤ c.length ∧ i = .int .i64 k ∧ Hid (cOkTo vars c k = true) ∧ Below w.heap.size w wr) (fun i _ => c.length - (intOf i).toNat)
  case atStart => exact ⟨0, Nat.zero_le _, rfl, by simp [Hid, cOkTo], bb _⟩
  case round =>
    obtain ⟨k, hk, rfl, HR, hB⟩ := hrel
    by_cases hlt : k < c.length
    · rcases hx3 with ⟨rfl, rfl⟩ | ⟨hxn, b, off, rfl, rfl, hxc⟩
      · exact absurd hlt (by simp)
      have k0 := cell_regrown ((hxc k hlt).keep (hB.block b (hxc k hlt).lt)).1
      cases hl : litB vars c[k]
      · have HN : Hid (clauseB vars c = false) := clause_no hlt (by unfold cOk; rw [List.getD_eq_getElem?_getD, List.getElem?_eq_getElem hlt]; simp [hl])
        go_wp2_with fail
        refine wp_region_quiet_below (by kernel_rfl) (by kernel_rfl) ?_
        repeat (any_goals (first | go_big_quiet_step ((go_at_call 80; exact Calls.regrown_of (l2Lit_at hl _)))))
        refine wpQuiet_nil ?_
        rintro w1 ⟨p, rfl⟩
        go_wp2_with fail
        go_ret
        exact ⟨ret_bool HN.out.symm, hB.trans ((below_regrown _ _ _).mono hB.size)⟩
      rcases Nat.eq_zero_or_pos k with rfl | hpos
      · have HN : Hid (cOkTo vars c (0 + 1) = true) := clause_step rfl (by rw [cOk_zero _ _ hlt]; exact hl)
        rw [Nat.add_zero] at k0
        clear HR
        go_wp2_with fail
        refine wp_region_quiet_below (by kernel_rfl) (by kernel_rfl) ?_
        repeat (any_goals (first | go_big_quiet_step ((go_at_call 80; exact Calls.regrown_of (l2Lit_at hl _)))))
        refine wpQuiet_nil ?_
        rintro w1 ⟨p, rfl⟩
        go_wp2_with fail
        go_roundw
        case rel => exact ⟨0 + 1, by omega, by go_num, HN, hB.trans ((below_regrown _ _ _).mono hB.size)⟩
        case measure => simp [intOf]; omega
      have hj : k - 1 < c.length := by omega
      have k1 := cell_regrown ((hxc (k - 1) hj).keep (hB.block b (hxc (k - 1) hj).lt)).1
      have HS : cOk vars c k = decide (absV c[k - 1] < absV c[k]) := by
        obtain ⟨j, rfl⟩ : ∃ j, k = j + 1 := ⟨k - 1, by omega⟩
        rw [cOk_succ vars c j hlt, hl, Bool.true_and]
        rfl
      obtain ⟨x, hx⟩ : ∃ x, absV c[k - 1] = x := ⟨_, rfl⟩
      obtain ⟨y, hy⟩ : ∃ y, absV c[k] = y := ⟨_, rfl⟩
      rw [hx, hy] at HS
      have hg : (0 : Int) < (k : Int) := by omega
      by_cases hc : x < y
      · have HN : Hid (cOkTo vars c (k + 1) = true) := clause_step HR.out (by rw [HS]; simpa using hc)
        clear HS HR
        go_wp2_with fail
        refine wp_region_quiet_below (by kernel_rfl) (by kernel_rfl) ?_
        repeat (any_goals (first | go_big_quiet_step (first | (go_at_call 80; exact Calls.regrown_of (l2Lit_at hl _)) | (go_at_call 145; first | (with_reducible exact Calls.regrown_of (l2Var_at hx _)) | (with_reducible exact Calls.regrown_of (l2Var_at hy _))))))
        refine wpQuiet_nil ?_
        rintro w1 ⟨p, rfl⟩
        go_wp2_with fail
        go_roundw
        case rel => exact ⟨k + 1, by omega, by go_num, HN, hB.trans ((below_regrown _ _ _).mono hB.size)⟩
        case measure => simp [intOf]; omega
      · have HN : Hid (clauseB vars c = false) := clause_no hlt (by rw [HS]; simpa using hc)
        clear HS HR
        go_wp2_with fail
        refine wp_region_quiet_below (by kernel_rfl) (by kernel_rfl) ?_
        repeat (any_goals (first | go_big_quiet_step (first | (go_at_call 80; exact Calls.regrown_of (l2Lit_at hl _)) | (go_at_call 145; first | (with_reducible exact Calls.regrown_of (l2Var_at hx _)) | (with_reducible exact Calls.regrown_of (l2Var_at hy _))))))
        refine wpQuiet_nil ?_
        rintro w1 ⟨p, rfl⟩
        go_wp2_with fail
        go_ret
        exact ⟨ret_bool HN.out.symm, hB.trans ((below_regrown _ _ _).mono hB.size)⟩
    · obtain rfl : k = c.length := by omega
      have HN := HR.out
      replace HN := (show Hid (cOkTo vars c c.length = true) from HN)
      go_wp2_with fail
      go_ret
      exact ⟨ret_bool (by rw [hd.out, HN.out]), hB⟩
set_option maxHeartbeats 1000000 in
theorem implIsClause_any (vars : Int) (v : Value) (c : List Int) (F : List Nat) (w : World) (hx : Ty.int.row false w v c F) :
    Calls Tryz.prog 25 #[.int .i64 vars, v] w fun e w' => e = .returned (.bool (clauseB vars c)) ∧ Below w.heap.size w w' := by
  obtain ⟨a, cap, rfl, hx1, hx2, hxI, hx3⟩ := row_int hx
  go_enter Tryz.func25, Tryz.ntmps25
  go_wp2_with fail
  go_loopw [9] (fun i wr => ∃ k : Nat, k ≤ c.length ∧ i = .int .i64 k ∧ Hid (cOkTo vars c k = true) ∧ Below w.heap.size w wr) (fun i _ => c.length - (intOf i).toNat)
  case atStart => exact ⟨0, Nat.zero_le _, rfl, by simp [Hid, cOkTo], bb _⟩
  case round =>
    obtain ⟨k, hk, rfl, HR, hB⟩ := hrel
    by_cases hlt : k < c.length
    · rcases hx3 with ⟨rfl, rfl⟩ | ⟨hxn, b, off, rfl, rfl, hxc⟩
      · exact absurd hlt (by simp)
      have k0 := ((hxc k hlt).keep (hB.block b (hxc k hlt).lt)).1
      have hI0 : I64 c[k] := hxI _ (List.getElem_mem _)
      cases hl : litB vars c[k]
      · have HN : Hid (clauseB vars c = false) := clause_no hlt (by unfold cOk; rw [List.getD_eq_getElem?_getD, List.getElem?_eq_getElem hlt]; simp [hl])
        go_wp2_with fail
        refine wp_region_quiet_below (by kernel_rfl) (by kernel_rfl) ?_
        repeat (any_goals (first | go_big_quiet_step ((go_at_call 76; exact Calls.regrown_of (isLiteral_at hl _)))))
        refine wpQuiet_nil ?_
        rintro w1 ⟨p, rfl⟩
        go_wp2_with fail
        go_ret
        exact ⟨ret_bool HN.out.symm, hB.trans ((below_regrown _ _ _).mono hB.size)⟩
      rcases Nat.eq_zero_or_pos k with rfl | hpos
      · have HN : Hid (cOkTo vars c (0 + 1) = true) := clause_step rfl (by rw [cOk_zero _ _ hlt]; exact hl)
        rw [Nat.add_zero] at k0
        clear HR
        go_wp2_with fail
        refine wp_region_quiet_below (by kernel_rfl) (by kernel_rfl) ?_
        repeat (any_goals (first | go_big_quiet_step ((go_at_call 76; exact Calls.regrown_of (isLiteral_at hl _)))))
        refine wpQuiet_nil ?_
        rintro w1 ⟨p, rfl⟩
        go_wp2_with fail
        go_roundw
        case rel => exact ⟨0 + 1, by omega, by go_num, HN, hB.trans ((below_regrown _ _ _).mono hB.size)⟩
        case measure => simp [intOf]; omega
      have hj : k - 1 < c.length := by omega
      have k1 := cell_regrown ((hxc (k - 1) hj).keep (hB.block b (hxc (k - 1) hj).lt)).1
      have hI1 : I64 c[k - 1] := hxI _ (List.getElem_mem _)
      have HS : cOk vars c k = decide (absV c[k - 1] < absV c[k]) := by
        obtain ⟨j, rfl⟩ : ∃ j, k = j + 1 := ⟨k - 1, by omega⟩
        rw [cOk_succ vars c j hlt, hl, Bool.true_and]
        rfl
      obtain ⟨x, hx⟩ : ∃ x, absV c[k - 1] = x := ⟨_, rfl⟩
      obtain ⟨y, hy⟩ : ∃ y, absV c[k] = y := ⟨_, rfl⟩
      rw [hx, hy] at HS
      have hg : (0 : Int) < (k : Int) := by omega
      by_cases hc : x < y
      · have HN : Hid (cOkTo vars c (k + 1) = true) := clause_step HR.out (by rw [HS]; simpa using hc)
        clear HS HR
        go_wp2_with fail
        refine wp_region_quiet_below (by kernel_rfl) (by kernel_rfl) ?_
        repeat (any_goals (first | go_big_quiet_step (first | (go_at_call 76; exact Calls.regrown_of (isLiteral_at hl _)) | (go_at_call 84; first | (with_reducible exact Calls.regrown_of (abs_at hI1 hx _)) | (with_reducible exact Calls.regrown_of (abs_at hI0 hy _))))))
        refine wpQuiet_nil ?_
        rintro w1 ⟨p, rfl⟩
        go_wp2_with fail
        go_roundw
        case rel => exact ⟨k + 1, by omega, by go_num, HN, hB.trans ((below_regrown _ _ _).mono hB.size)⟩
        case measure => simp [intOf]; omega
      · have HN : Hid (clauseB vars c = false) := clause_no hlt (by rw [HS]; simpa using hc)
        clear HS HR
        go_wp2_with fail
        refine wp_region_quiet_below (by kernel_rfl) (by kernel_rfl) ?_
        repeat (any_goals (first | go_big_quiet_step (first | (go_at_call 76; exact Calls.regrown_of (isLiteral_at hl _)) | (go_at_call 84; first | (with_reducible exact Calls.regrown_of (abs_at hI1 hx _)) | (with_reducible exact Calls.regrown_of (abs_at hI0 hy _))))))
        refine wpQuiet_nil ?_
        rintro w1 ⟨p, rfl⟩
        go_wp2_with fail
        go_ret
        exact ⟨ret_bool HN.out.symm, hB.trans ((below_regrown _ _ _).mono hB.size)⟩
    · obtain rfl : k = c.length := by omega
      have HN : Hid (clauseB vars c = inB vars 0 12) := by unfold Hid clauseB; rw [HR.out, Bool.and_true]
      clear HR
      go_wp2_with (go_at_call 85; refine (varsOk_any _ _).mono ?_; rintro e w1 ⟨rfl, rfl⟩)
      go_ret
      exact ⟨ret_bool HN.out.symm, hB⟩
end Go.Proofs.YtahbepajeplcmaaGreatDoor

/- From the form's reading of an argument to 'Ty.rep'. No program in sight. -/
namespace Go.Proofs.YtahbepajeplcmaaGreatDoor
open Go.RowKit Go.Deep

/-- Whatever reads as data at type t holds data by T. -/
def Opens (P : Program) (t : TypeId) {α : Type} (T : Ty α) : Prop :=
  ∀ (H : Type) (enc : TypeId × Value → H) (w : World) (spare : Nat → Bool) (held : Bool) (fuel : Nat) (cs : List Value) (y : DataW H × List MemPlace),
    DataW.trod enc P w 0 spare held fuel t cs = some y → ∃ x F, T.rep false w cs x F

theorem Opens.int {P : Program} {t : TypeId} (ht : P.underlying t = some (.int .i64)) : Opens P t Ty.int := by
  intro H enc w spare held fuel cs y h
  obtain ⟨n, rfl, _, hw⟩ := DataW.trod_int ht h
  have := bounds_i64 hw
  exact ⟨n, [], rfl, by unfold I64; omega, rfl⟩
theorem Opens.bool {P : Program} {t : TypeId} (ht : P.underlying t = some .bool) : Opens P t Ty.bool := by
  intro H enc w spare held fuel cs y h
  obtain ⟨b, rfl, _⟩ := DataW.trod_bool ht h
  exact ⟨b, [], rfl, rfl⟩
theorem Opens.str {P : Program} {t : TypeId} (ht : P.underlying t = some .string) : Opens P t Ty.str := by
  intro H enc w spare held fuel cs y h
  obtain ⟨s, rfl, _, hw⟩ := DataW.trod_string ht h
  unfold maxLen at hw
  exact ⟨s, [], rfl, by omega, rfl⟩

/-- No field. -/
def Ty.unit : Ty Unit where
  size := 0
  rep _ _ cs _ F := cs = [] ∧ F = []
  len h := by obtain ⟨rfl, _⟩ := h; rfl
  lt h := by obtain ⟨_, rfl⟩ := h; simp
  keep h _ := h
  down h := h

/-- The fields from one place on. -/
def OpensF (P : Program) : List Field → Nat → {α : Type} → Ty α → Prop
  | fs, off, _, T => ∀ (H : Type) (enc : TypeId × Value → H) (w : World) (spare : Nat → Bool) (held : Bool) (fuel : Nat) (cs : List Value),
      cs.length = off + T.size → (∀ f ∈ fs, ∃ y : DataW H × List MemPlace, DataW.trod enc P w 0 spare held fuel f.type ((cs.drop f.offset).take (P.cellsOf f.type)) = some y) → ∃ x F, T.rep false w (cs.drop off) x F
theorem OpensF.nil {P : Program} {off : Nat} : OpensF P [] off Ty.unit := by
  intro H enc w spare held fuel cs hl _
  exact ⟨(), [], List.drop_of_length_le (by rw [hl]; exact Nat.le_refl _), rfl⟩
theorem OpensF.cons {P : Program} {f : Field} {fs : List Field} {off : Nat} {α β : Type} {T : Ty α} {U : Ty β} (ho : f.offset = off) (hs : P.cellsOf f.type = T.size) (hT : Opens P f.type T) (hU : OpensF P fs (off + T.size) U) :
    OpensF P (f :: fs) off (T.pair U) := by
  intro H enc w spare held fuel cs hl hf
  obtain ⟨y, hy⟩ := hf f List.mem_cons_self
  obtain ⟨x, F, hx⟩ := hT H enc w spare held fuel _ y hy
  obtain ⟨z, G, hz⟩ := hU H enc w spare held fuel cs (by rw [hl]; exact (Nat.add_assoc _ _ _).symm) (fun g hg => hf g (List.mem_cons_of_mem _ hg))
  refine ⟨(x, z), F ++ G, _, _, F, G, ?_, rfl, hx, hz⟩
  rw [ho, hs, ← List.drop_drop, List.take_append_drop]
theorem Opens.struct {P : Program} {t : TypeId} {fs : Array Field} {α : Type} {T : Ty α} (ht : P.underlying t = some (.struct fs)) (hC : P.cellsOf t = T.size) (hf : OpensF P fs.toList 0 T) : Opens P t T := by
  intro H enc w spare held fuel cs y h
  obtain ⟨xs, n, _, rfl, hl, hlen, hxs⟩ := DataW.trod_struct ht h
  have := hf H enc w spare held n cs (by rw [hl, hC]; omega) (fun f hm => by
    obtain ⟨i, hi, e⟩ := List.getElem_of_mem hm
    have hi' : i < xs.length := by rw [hlen]; simpa using hi
    exact ⟨xs[i], by
      have h1 := hxs i f (by simpa [e] using (Array.getElem?_eq_getElem (xs := fs) (by simpa using hi)).trans (congrArg some (by simpa using e)))
      simpa [hi'] using h1⟩)
  simpa using this
theorem Opens.as {P : Program} {t : TypeId} {α β : Type} {T : Ty α} (g : β → α) (f : α → β) (hg : ∀ x, g (f x) = x) (h : Opens P t T) : Opens P t (T.as g) := by
  intro H enc w spare held fuel cs y hy
  obtain ⟨x, F, hx⟩ := h H enc w spare held fuel cs y hy
  exact ⟨f x, F, by show T.rep false w cs (g (f x)) F; rw [hg]; exact hx⟩

theorem add_spot {w : World} {a : Addr} {j : Nat} {v : Value} (h : w.cell? (a.add j) = some v) (hz : j = 0 ∨ 0 < j) : a.add j = ⟨a.block, a.off + j, none⟩ := by
  obtain ⟨b, o, s⟩ := a
  unfold Addr.add at *
  by_cases e : j = 0
  · subst e
    rw [if_pos rfl] at *
    cases s with
    | none => rfl
    | some x => simp [World.cell?] at h; split at h <;> simp at h
  · rw [if_neg e]

/-- Elements that can be read, one behind the other. -/
theorem Opens.elems {P : Program} {e : TypeId} {α : Type} {T : Ty α} (hC : P.cellsOf e = T.size) (hT : Opens P e T) {H : Type} {enc : TypeId × Value → H} {w : World} {spare : Nat → Bool} {held : Bool} {n : Nat} {a : Addr} :
    ∀ (len : Nat), (∀ i, i < len → ∃ cs' y, w.cells? 0 (a.add (i * P.cellsOf e)) (P.cellsOf e) = some cs' ∧ DataW.trod enc P w 0 spare held n e cs' = some y) →
      ∃ (xs : List α) (cs : List Value) (G : List Nat), xs.length = len ∧ T.all false w cs xs G ∧ ∀ j (hj : j < cs.length), w.cell? ⟨a.block, a.off + j, none⟩ = some cs[j]
  | 0, _ => ⟨[], [], [], rfl, ⟨rfl, rfl⟩, by simp⟩
  | len + 1, h => by
    obtain ⟨xs, cs, G, hl, hall, hc⟩ := Opens.elems hC hT len (fun i hi => h i (by omega))
    obtain ⟨cs', y, h1, h2⟩ := h len (by omega)
    obtain ⟨_, hcl, hat⟩ := World.cells?_some h1
    obtain ⟨x, F, hx⟩ := hT H enc w spare held n cs' y h2
    have hlen := Ty.all_len hall
    refine ⟨xs ++ [x], cs ++ cs', G ++ F, by simp [hl], Ty.all_snoc hall hx, fun j hj => ?_⟩
    by_cases hj1 : j < cs.length
    · rw [List.getElem_append_left hj1]; exact hc j hj1
    · rw [List.getElem_append_right (by omega)]
      have hj2 : j - cs.length < cs'.length := by rw [List.length_append] at hj; omega
      have h3 := hat (j - cs.length) (by omega)
      rw [add_add] at h3
      have e1 : len * P.cellsOf e + (j - cs.length) = j := by rw [hC, ← hl, ← hlen]; omega
      rw [e1, List.getElem?_eq_getElem hj2] at h3
      rw [← add_spot h3 (by omega)]; exact h3
theorem Opens.slice {P : Program} {t e : TypeId} {α : Type} {T : Ty α} (ht : P.underlying t = some (.slice e)) (hC : P.cellsOf e = T.size) (hs : 0 < T.size) (hT : Opens P e T) : Opens P t T.slice := by
  intro H enc w spare held fuel cs y h
  rcases open_slice ht h with ⟨rfl, _⟩ | ⟨a, len, cap, m, n, D, Pl, rfl, _, hl, hm, hmm, _, hi⟩
  · exact ⟨[], [], _, rfl, Ty.row_nil _ _ _ _ _ (by decide)⟩
  · have hle : len ≤ m := by rw [hmm]; split <;> omega
    obtain ⟨xs, ccs, G, hxl, hall, hc⟩ := Opens.elems (P := P) (e := e) (a := a) hC hT len (fun i hlt => by
      obtain ⟨cs', h1, h2⟩ := hi i (by omega)
      exact ⟨cs', _, h1, h2⟩)
    unfold maxLen at hm
    by_cases h0 : xs = []
    · subst h0
      obtain rfl : len = 0 := by simpa using hxl.symm
      exact ⟨[], [], _, rfl, Ty.row_nil _ _ _ _ _ (by omega)⟩
    · have hccs : ccs.length = xs.length * T.size := Ty.all_len hall
      have hp : 0 < xs.length := List.length_pos_iff.2 h0
      have h00 : 0 < ccs.length := by rw [hccs]; exact Nat.mul_pos hp hs
      have ha : a = ⟨a.block, a.off, none⟩ := by
        obtain ⟨cs', h1, _⟩ := hi 0 (by omega)
        obtain ⟨_, hcl, hat⟩ := World.cells?_some h1
        have h3 := hat 0 (by rw [hC]; exact hs)
        rw [add_add, List.getElem?_eq_getElem (by rw [hcl, hC]; exact hs)] at h3
        have := add_spot h3 (by omega)
        simpa [Addr.add] using this
      exact ⟨xs, a.block :: G, _, rfl, some a, cap, ccs, G, by rw [hxl], by omega, by omega, hall, .inr ⟨hs, h0, a.block, a.off, by rw [← ha], rfl, fun j hj => ⟨hc j hj, fun e => by cases e⟩⟩⟩
end Go.Proofs.YtahbepajeplcmaaGreatDoor

/- Memory facts: elements of a fixed number of cells that hold no references. No program in sight. -/
namespace Go.Proofs.YtahbepajeplcmaaGreatDoor
open Go.RowKit

/-- Data in a fixed number of cells, without references. -/
def Ty.flat {α : Type} (n : Nat) (enc : α → List Value) (good : α → Prop) (hn : ∀ x, (enc x).length = n) : Ty α where
  size := n
  rep _ _ cs x F := cs = enc x ∧ good x ∧ F = []
  len h := by obtain ⟨rfl, _, _⟩ := h; exact hn _
  lt h := by obtain ⟨_, _, rfl⟩ := h; simp
  keep h _ := h
  down h := h

section
variable {α : Type} {n : Nat} {enc : α → List Value} {good : α → Prop} {hn : ∀ x, (enc x).length = n}
theorem flat_all {wr : Bool} {w : World} : ∀ {xs : List α} {cs : List Value} {F : List Nat}, (Ty.flat n enc good hn).all wr w cs xs F ↔ cs = xs.flatMap enc ∧ (∀ x ∈ xs, good x) ∧ F = []
  | [], cs, F => by simp [Ty.all]
  | x :: xs, cs, F => by
    constructor
    · rintro ⟨c, d, F1, F2, rfl, rfl, ⟨rfl, hg, rfl⟩, h2⟩
      obtain ⟨rfl, h3, rfl⟩ := flat_all.1 h2
      exact ⟨rfl, fun y hy => by rcases List.mem_cons.1 hy with rfl | hy; exact hg; exact h3 y hy, rfl⟩
    · rintro ⟨rfl, h, rfl⟩
      exact ⟨enc x, xs.flatMap enc, [], [], rfl, rfl, ⟨rfl, h x List.mem_cons_self, rfl⟩, flat_all.2 ⟨rfl, fun y hy => h y (List.mem_cons_of_mem _ hy), rfl⟩⟩
theorem flat_len (hn : ∀ x, (enc x).length = n) (xs : List α) : (xs.flatMap enc).length = xs.length * n := by
  induction xs with
  | nil => simp
  | cons x xs ih => rw [List.flatMap_cons, List.length_append, ih, hn, List.length_cons, Nat.add_mul]; omega
theorem flat_get (hn : ∀ x, (enc x).length = n) : ∀ (xs : List α) (j : Nat) (hj : j < xs.length) (i : Nat), i < n → (xs.flatMap enc)[j * n + i]? = (enc xs[j])[i]?
  | x :: xs, 0, _, i, hi => by
    rw [List.flatMap_cons, Nat.zero_mul, Nat.zero_add, List.getElem?_append_left (by rw [hn]; exact hi)]; rfl
  | x :: xs, j + 1, hj, i, hi => by
    rw [List.flatMap_cons, List.getElem?_append_right (by rw [hn, Nat.add_mul]; omega), hn]
    rw [show (j + 1) * n + i - n = j * n + i by rw [Nat.add_mul]; omega]
    exact flat_get hn xs j (by simpa using hj) i hi
theorem flat_at (hn : ∀ x, (enc x).length = n) (xs : List α) (q : Nat) (hq : q < xs.length * n) : ∃ j i, j < xs.length ∧ i < n ∧ q = j * n + i := by
  have h0 : 0 < n := by rcases Nat.eq_zero_or_pos n with h | h; (subst h; simp at hq); exact h
  refine ⟨q / n, q % n, (Nat.div_lt_iff_lt_mul h0).2 hq, Nat.mod_lt _ h0, ?_⟩
  rw [Nat.mul_comm]; exact (Nat.div_add_mod q n).symm

/-- A row of flat elements: nil or empty; or its cells. -/
theorem row_flat {wr : Bool} {w : World} {v : Value} {xs : List α} {F : List Nat} (h : (Ty.flat n enc good hn).row wr w v xs F) :
    ∃ a cap, v = .slice a xs.length cap ∧ xs.length ≤ cap ∧ cap ≤ 9223372036854775807 ∧ (∀ x ∈ xs, good x) ∧
      ((xs = [] ∧ F = []) ∨ (0 < n ∧ xs ≠ [] ∧ ∃ b off, a = some ⟨b, off, none⟩ ∧ F = [b] ∧ ∀ j (hj : j < xs.length) i (u : Value), (enc xs[j])[i]? = some u → cellIs wr w b (off + (j * n + i)) u)) := by
  obtain ⟨a, cap, cs, G, rfl, h1, h2, hall, h⟩ := h
  obtain ⟨rfl, hg, rfl⟩ := flat_all.1 hall
  refine ⟨a, cap, rfl, h1, h2, hg, h.imp id ?_⟩
  rintro ⟨h0, hne, b, off, rfl, rfl, hc⟩
  refine ⟨h0, hne, b, off, rfl, rfl, fun j hj i u hu => ?_⟩
  have hi : i < n := by have := (List.getElem?_eq_some_iff.1 hu).1; rwa [hn] at this
  have hlt : j * n + i < (xs.flatMap enc).length := by
    rw [flat_len hn]
    have : (j + 1) * n ≤ xs.length * n := Nat.mul_le_mul_right n hj
    rw [Nat.add_mul] at this; omega
  have h3 := hc (j * n + i) hlt
  have h4 := flat_get hn xs j hj i hi
  rw [List.getElem?_eq_getElem hlt, hu] at h4
  rw [Option.some.inj h4] at h3
  exact h3
theorem row_flat_mk {wr : Bool} {w : World} {b off cap : Nat} {xs : List α} (hg : ∀ x ∈ xs, good x) (h1 : xs.length ≤ cap) (h2 : cap ≤ 9223372036854775807) (hne : xs ≠ []) (h0 : 0 < n)
    (hc : ∀ j (hj : j < xs.length) i (u : Value), (enc xs[j])[i]? = some u → cellIs wr w b (off + (j * n + i)) u) : (Ty.flat n enc good hn).row wr w (.slice (some ⟨b, off, none⟩) xs.length cap) xs [b] := by
  refine ⟨_, cap, xs.flatMap enc, [], rfl, h1, h2, flat_all.2 ⟨rfl, hg, rfl⟩, .inr ⟨h0, hne, b, off, rfl, rfl, fun q hq => ?_⟩⟩
  obtain ⟨j, i, hj, hi, rfl⟩ := flat_at hn xs q (by rw [flat_len hn] at hq; exact hq)
  refine hc j hj i _ ?_
  rw [← flat_get hn xs j hj i hi, List.getElem?_eq_getElem hq]
/-- The same cells told by another opening. -/
theorem Opens.flat {P : Program} {t : TypeId} {β : Type} {T : Ty β} (h : Opens P t T) (f : β → α) (hf : ∀ w cs x F, T.rep false w cs x F → cs = enc (f x) ∧ good (f x) ∧ F = []) : Opens P t (Ty.flat n enc good hn) := by
  intro H ec w spare held fuel cs y hy
  obtain ⟨x, F, hx⟩ := h H ec w spare held fuel cs y hy
  exact ⟨f x, F, hf w cs x F hx⟩
end
end Go.Proofs.YtahbepajeplcmaaGreatDoor

/- Memory facts: rows of rows. No program in sight. -/
namespace Go.Proofs.YtahbepajeplcmaaGreatDoor
open Go.RowKit

/-- A row of rows: the header of each element, and its own row. -/
theorem row_slices {α : Type} {T : Ty α} {wr : Bool} {w : World} {v : Value} {xss : List (List α)} {F : List Nat} (h : (Ty.slice T).row wr w v xss F) :
    ∃ a cap, v = .slice a xss.length cap ∧ xss.length ≤ cap ∧ cap ≤ 9223372036854775807 ∧ ((xss = [] ∧ F = []) ∨ (xss ≠ [] ∧ ∃ b off, a = some ⟨b, off, none⟩ ∧ b ∈ F ∧ ∀ k (hk : k < xss.length), ∃ u Fk, cellIs wr w b (off + k) u ∧ T.row wr w u xss[k] Fk ∧ ∀ x ∈ Fk, x ∈ F)) := by
  obtain ⟨a, cap, cs, G, rfl, h1, h2, hall, h⟩ := h
  refine ⟨a, cap, rfl, h1, h2, h.imp id ?_⟩
  rintro ⟨_, hne, b, off, rfl, rfl, hc⟩
  refine ⟨hne, b, off, rfl, List.mem_cons_self, fun k hk => ?_⟩
  obtain ⟨c, d, e, F1, F2, F3, rfl, rfl, hl, _, ⟨u, rfl, hu⟩, _⟩ := Ty.all_split hall k hk
  have hl' : c.length = k := by rw [hl]; show k * 1 = k; omega
  refine ⟨u, F2, ?_, hu, fun x hx => by simp [hx]⟩
  have := hc k (by simp; omega)
  rw [List.getElem_append_left (by simp; omega), List.getElem_append_right (by omega)] at this
  simpa [hl'] using this

/-- What a copying loop over rows has made so far. -/
def CopyAll {α : Type} (T : Ty α) (xss : List (List α)) (k : Nat) (w wr : World) : Prop :=
  ∃ (cs : List Value) (G : List Nat), (Ty.slice T).all true wr cs (xss.take k) G ∧ G.Nodup ∧ (∀ b ∈ G, w.heap.size < b) ∧
    (∀ j, j < xss.length → ∃ a n c, wr.cell? ⟨w.heap.size, j, none⟩ = some (.slice a n c) ∧ wr.frozen? ⟨w.heap.size, j, none⟩ = false ∧ (j < k → cs[j]? = some (.slice a n c))) ∧ Below w.heap.size w wr ∧ w.heap.size < wr.heap.size
theorem CopyAll.step {α : Type} {T : Ty α} {xss : List (List α)} {k : Nat} {w wr w1 : World} {a : Option Addr} {n c : Nat} {F : List Nat} (h : CopyAll T xss k w wr) (hk : k < xss.length)
    (hr : T.row true w1 (.slice a n c) xss[k] F) (hn : F.Nodup) (hF : ∀ b ∈ F, wr.heap.size ≤ b) (hb : Below wr.heap.size wr w1) : CopyAll T xss (k + 1) w (w1.setCell ⟨w.heap.size, k, none⟩ (.slice a n c)) := by
  obtain ⟨cs, G, hall, hG, hGb, hc, hB, hs⟩ := h
  have hlen : cs.length = k := by rw [Ty.all_len hall, List.length_take]; show min k xss.length * 1 = k; omega
  have hkeep : ∀ b, w.heap.size < b → (w1.setCell ⟨w.heap.size, k, none⟩ (.slice a n c)).heap[b]? = w1.heap[b]? := fun b hb => Below.heap_setCell _ _ _ _ (by simp; omega)
  have hall1 := Ty.all_keep (w' := w1) hall (fun b hb' => hb.block b (Ty.all_lt hall b hb'))
  have hall2 := Ty.all_keep (w' := w1.setCell ⟨w.heap.size, k, none⟩ (.slice a n c)) hall1 (fun b hb' => hkeep b (hGb b hb'))
  have hr2 := Ty.row_keep (w' := w1.setCell ⟨w.heap.size, k, none⟩ (.slice a n c)) hr (fun b hb' => hkeep b (Nat.lt_of_lt_of_le hs (hF b hb')))
  refine ⟨cs ++ [.slice a n c], G ++ F, ?_, ?_, ?_, ?_, ?_, ?_⟩
  · rw [List.take_succ_eq_append_getElem hk]
    exact Ty.all_snoc hall2 ⟨_, rfl, hr2⟩
  · refine List.nodup_append.2 ⟨hG, hn, fun x hx y hy e => ?_⟩
    have h1 := Ty.all_lt hall x hx
    have h2 := hF y hy
    omega
  · intro b hb'
    rcases List.mem_append.1 hb' with hb' | hb'
    · exact hGb b hb'
    · have := hF b hb'; omega
  · intro j hj
    obtain ⟨a', n', c', h1, h2, h3⟩ := hc j hj
    have h1' := ((bcell hb).1 _ j hs).trans h1
    have h2' := ((bcell hb).2 _ j hs).trans h2
    by_cases e : j = k
    · subst e
      exact ⟨a, n, c, World.cell?_setCell_same' _ _ _ (by rw [h1']; rfl), by rw [World.frozen?_setCell]; exact h2', fun _ => by rw [List.getElem?_append_right (by omega)]; simp [hlen]⟩
    · refine ⟨a', n', c', by rw [World.cell?_setCell_other w1 _ _ _ (by simp only [ne_eq, Addr.mk.injEq]; omega)]; exact h1', by rw [World.frozen?_setCell]; exact h2', fun hlt => ?_⟩
      rw [List.getElem?_append_left (by omega)]
      exact h3 (by omega)
  · exact bst (btr hB hb) (Nat.le_refl _) _
  · simp only [World.setCell, Array.size_modify]; exact Nat.lt_of_lt_of_le hs hb.size
/-- The copy of a row of rows. -/
theorem CopyAll.done {α : Type} {T : Ty α} {xss : List (List α)} {w wr : World} (h : CopyAll T xss xss.length w wr) (hm : xss.length ≤ 9223372036854775807) :
    ∃ F, (Ty.slice T).row true wr (.slice (some ⟨w.heap.size, 0, none⟩) xss.length xss.length) xss F ∧ F.Nodup ∧ (∀ b ∈ F, w.heap.size ≤ b) := by
  obtain ⟨cs, G, hall, hG, hGb, hc, hB, hs⟩ := h
  rw [List.take_length] at hall
  have hlen : cs.length = xss.length := by rw [Ty.all_len hall]; show xss.length * 1 = xss.length; omega
  by_cases hne : xss = []
  · subst hne
    exact ⟨[], Ty.row_nil _ _ _ _ _ (by simp), by simp, by simp⟩
  · refine ⟨w.heap.size :: G, ⟨_, _, cs, G, rfl, Nat.le_refl _, hm, hall, .inr ⟨Nat.zero_lt_one, hne, w.heap.size, 0, rfl, rfl, fun j hj => ?_⟩⟩, List.nodup_cons.2 ⟨fun h => by have := hGb _ h; omega, hG⟩, ?_⟩
    · obtain ⟨a, n, c, h1, h2, h3⟩ := hc j (by omega)
      have h4 := h3 (by omega)
      rw [List.getElem?_eq_getElem hj] at h4
      rw [Option.some.inj h4, Nat.zero_add]
      exact ⟨h1, fun _ => h2⟩
    · intro b hb
      rcases List.mem_cons.1 hb with rfl | hb
      · exact Nat.le_refl _
      · exact Nat.le_of_lt (hGb b hb)

/-- How many numbers, each row counted once more. -/
def bulk (xss : List (List Int)) : Nat := xss.length + (xss.map List.length).sum
end Go.Proofs.YtahbepajeplcmaaGreatDoor

/- Contracts: rows of rows of ints and Cnfs in the laws. -/
namespace Go.Proofs.YtahbepajeplcmaaGreatDoor
open Go.RowKit

/- left out: the seat has no laws.szIntS -/

/-- The number of numbers in the first k rows. -/
def sumTo (xss : List (List Int)) (k : Nat) : Nat := ((xss.take k).map List.length).sum
theorem sumTo_succ (xss : List (List Int)) (k : Nat) (hk : k < xss.length) : sumTo xss (k + 1) = sumTo xss k + xss[k].length := by
  unfold sumTo; rw [List.take_succ_eq_append_getElem hk, List.map_append, List.sum_append]; simp
theorem sumTo_all (xss : List (List Int)) : sumTo xss xss.length = (xss.map List.length).sum := by unfold sumTo; rw [List.take_length]
theorem sumTo_le (xss : List (List Int)) (k : Nat) : sumTo xss k ≤ (xss.map List.length).sum := by
  unfold sumTo
  conv => rhs; rw [← List.take_append_drop k xss]
  rw [List.map_append, List.sum_append]; omega
theorem sumTo_zero (xss : List (List Int)) : sumTo xss 0 = 0 := rfl
theorem get_len_le (xss : List (List Int)) (k : Nat) (hk : k < xss.length) : xss[k].length ≤ (xss.map List.length).sum := by
  have := sumTo_le xss (k + 1)
  rw [sumTo_succ xss k hk] at this; omega

/-- What is left, or -1. -/
def szOf (n : Int) (b : Nat) : Int := if n < (b : Int) then -1 else n - b
theorem szOf_no {n : Int} {b : Nat} (h : n < (b : Int)) : szOf n b = -1 := if_pos h
theorem szOf_yes {n : Int} {b : Nat} (h : (b : Int) ≤ n) : szOf n b = n - b := if_neg (by omega)

/- left out: the seat has no laws.szIntSS -/

theorem infoRow : (Tryz.prog.info? 43).map (fun i => (i.zero, i.size, i.bytes)) = some (some (.slice none 0 0), 1, 24) := by kernel_rfl

/- left out: the seat has no laws.toIntSS -/

/- left out: the seat has no laws.eqIntSS -/
end Go.Proofs.YtahbepajeplcmaaGreatDoor

/- Contracts: valid Cnfs, in the reference and in the program. -/
namespace Go.Proofs.YtahbepajeplcmaaGreatDoor
open Go.RowKit

/-- A valid Cnf. -/
def goodB (vars : Int) (xss : List (List Int)) : Bool := inB vars 0 12 && decide (xss.length ≤ 60) && xss.all (clauseB vars)
theorem good_no {vars : Int} {xss : List (List Int)} {k : Nat} (hk : k < xss.length) (h : clauseB vars xss[k] = false) : goodB vars xss = false := by
  have : xss.all (clauseB vars) = false := by
    rw [Bool.eq_false_iff]
    intro h2
    rw [List.all_eq_true] at h2
    rw [h2 _ (List.getElem_mem hk)] at h
    cases h
  simp [goodB, this]
theorem all_step {vars : Int} {xss : List (List Int)} {k : Nat} (hk : k < xss.length) (h0 : (xss.take k).all (clauseB vars) = true) (h : clauseB vars xss[k] = true) : (xss.take (k + 1)).all (clauseB vars) = true := by
  rw [List.take_succ_eq_append_getElem hk, List.all_append, h0]
  simp [h]

theorem l2Clause_at {vars : Int} {v : Value} {c : List Int} {F : List Nat} {w : World} {q : Bool} (hx : Ty.int.row false w v c F) (h : clauseB vars c = q) :
    Calls Tryz.prog 79 #[.int .i64 vars, v] w fun e w' => e = .returned (.bool q) ∧ Below w.heap.size w w' := h ▸ l2Clause_any vars v c F w hx
theorem implIsClause_at {vars : Int} {v : Value} {c : List Int} {F : List Nat} {w : World} {q : Bool} (hx : Ty.int.row false w v c F) (h : clauseB vars c = q) :
    Calls Tryz.prog 25 #[.int .i64 vars, v] w fun e w' => e = .returned (.bool q) ∧ Below w.heap.size w w' := h ▸ implIsClause_any vars v c F w hx

/- left out: the seat has no spec.l3Good -/

/-- A boxed Cnf in the first new block. -/
def CBox (w : World) (n : Int) (v : Value) (wx : World) : Prop :=
  wx.cell? ⟨w.heap.size, 0, none⟩ = some (.int .i64 n) ∧ wx.cell? ⟨w.heap.size, 1, none⟩ = some v ∧ Below w.heap.size w wx ∧ w.heap.size < wx.heap.size
theorem CBox.grow {w : World} {n : Int} {v : Value} {wx wy : World} (h : CBox w n v wx) (hb : Below wx.heap.size wx wy) : CBox w n v wy := by
  obtain ⟨h0, h1, hB, hs⟩ := h
  have hc := (bcell hb).1
  exact ⟨(hc _ _ hs).trans h0, (hc _ _ hs).trans h1, btr hB hb, Nat.lt_of_lt_of_le hs hb.size⟩
theorem CBox.new (w : World) (n : Int) (v : Value) (T : TypeId) : CBox w n v (w.alloc (.cells #[.int .i64 n, v] T)) :=
  ⟨by simp [go_sem], by simp [go_sem], bal (bb _) _, by simp⟩

set_option maxHeartbeats 2000000 in
theorem l2Good_any (vars : Int) (v : Value) (xss : List (List Int)) (F : List Nat) (w : World) (hx : (Ty.slice Ty.int).row false w v xss F) :
    Calls Tryz.prog 101 #[.agg #[.int .i64 vars, v]] w fun e w' => e = .returned (.bool (goodB vars xss)) ∧ Below w.heap.size w w' := by
  obtain ⟨a, cap, rfl, hx1, hx2, hx3⟩ := row_slices hx
  cases hv : inB vars 0 12
  · have hd : Hid (goodB vars xss = false) := by unfold Hid goodB; rw [hv]; rfl
    go_enter Tryz.func101, Tryz.ntmps101
    go_wp2_with (go_at_call 109; refine (l2Vars_any _ _).mono ?_; rw [hv]; rintro e w1 ⟨rfl, rfl⟩)
    go_ret
    exact ⟨ret_bool hd.out.symm, bal (bb _) _⟩
  by_cases hL : (60 : Int) < (xss.length : Int)
  · have hd : Hid (goodB vars xss = false) := by unfold Hid goodB; rw [decide_eq_false (show ¬ xss.length ≤ 60 by omega)]; simp
    go_enter Tryz.func101, Tryz.ntmps101
    go_wp2_with (go_at_call 109; refine (l2Vars_any _ _).mono ?_; rw [hv]; rintro e w1 ⟨rfl, rfl⟩)
    go_ret
    exact ⟨ret_bool hd.out.symm, bal (bb _) _⟩
  have hd : Hid (goodB vars xss = xss.all (clauseB vars)) := by unfold Hid goodB; rw [hv, decide_eq_true (show xss.length ≤ 60 by omega)]; rfl
  have hst := CBox.new w vars (.slice a xss.length cap) 61
  replace hst := Lib.hid hst
  go_enter Tryz.func101, Tryz.ntmps101
  go_wp2_with (go_at_call 109; refine (l2Vars_any _ _).mono ?_; rw [hv]; rintro e w1 ⟨rfl, rfl⟩)
  go_loopw [3] (fun i wr => ∃ k : Nat, k ≤ xss.length ∧ i = .int .i64 k ∧ Hid ((xss.take k).all (clauseB vars) = true) ∧ CBox w vars (.slice a xss.length cap) wr) (fun i _ => xss.length - (intOf i).toNat)
  case atStart => exact ⟨0, Nat.zero_le _, rfl, by simp [Hid], hst.out⟩
  case round =>
    obtain ⟨k, hk, rfl, HR, HC⟩ := hrel
    have HJ := Lib.hid HC
    obtain ⟨c0, c1, hB, hs⟩ := HC
    by_cases hlt : k < xss.length
    · rcases hx3 with ⟨rfl, rfl⟩ | ⟨hxn, b, off, rfl, _, hxc⟩
      · exact absurd hlt (by simp)
      obtain ⟨u, Fk, hc, hr, _⟩ := hxc k hlt
      have hr' := Ty.row_below hr hB (Ty.row_lt hr)
      obtain ⟨ua, uc, rfl, hu1, hu2⟩ := Ty.row_len hr
      have k0 := cell_regrown (hc.keep (hB.block b hc.lt)).1
      have k1 := cell_regrown c0
      have k2 := cell_regrown c1
      cases hl : clauseB vars xss[k]
      · have HN : Hid (goodB vars xss = false) := good_no hlt hl
        go_wp2_with fail
        refine wp_region_quiet_below (by kernel_rfl) (by kernel_rfl) ?_
        repeat (any_goals (first | go_big_quiet_step ((go_at_call 79; exact Calls.regrown_of (l2Clause_at (Ty.row_below hr' (below_regrown _ _ _) (Ty.row_lt hr')) hl)))))
        refine wpQuiet_nil ?_
        rintro w1 ⟨p, rfl⟩
        go_wp2_with fail
        go_ret
        exact ⟨ret_bool HN.out.symm, hB.trans ((below_regrown _ _ _).mono hB.size)⟩
      · have HN : Hid ((xss.take (k + 1)).all (clauseB vars) = true) := all_step hlt HR.out hl
        clear HR
        go_wp2_with fail
        refine wp_region_quiet_below (by kernel_rfl) (by kernel_rfl) ?_
        repeat (any_goals (first | go_big_quiet_step ((go_at_call 79; exact Calls.regrown_of (l2Clause_at (Ty.row_below hr' (below_regrown _ _ _) (Ty.row_lt hr')) hl)))))
        refine wpQuiet_nil ?_
        rintro w1 ⟨p, rfl⟩
        go_wp2_with fail
        go_roundw
        case rel => exact ⟨k + 1, by omega, by go_num, HN, HJ.out.grow (below_regrown _ _ _)⟩
        case measure => simp [intOf]; omega
    · obtain rfl : k = xss.length := by omega
      have HN := HR.out
      rw [List.take_length] at HN
      replace HN := Lib.hid HN
      clear HR
      go_wp2_with fail
      go_ret
      exact ⟨ret_bool (by rw [hd.out, HN.out]), hB⟩

set_option maxHeartbeats 2000000 in
theorem implIsCnf_any (vars : Int) (v : Value) (xss : List (List Int)) (F : List Nat) (w : World) (hx : (Ty.slice Ty.int).row false w v xss F) :
    Calls Tryz.prog 39 #[.agg #[.int .i64 vars, v]] w fun e w' => e = .returned (.bool (goodB vars xss)) ∧ Below w.heap.size w w' := by
  obtain ⟨a, cap, rfl, hx1, hx2, hx3⟩ := row_slices hx
  have hst := CBox.new w vars (.slice a xss.length cap) 61
  replace hst := Lib.hid hst
  go_enter Tryz.func39, Tryz.ntmps39
  go_wp2_with fail
  go_loopw [8] (fun i wr => ∃ k : Nat, k ≤ xss.length ∧ i = .int .i64 k ∧ Hid ((xss.take k).all (clauseB vars) = true) ∧ CBox w vars (.slice a xss.length cap) wr) (fun i _ => xss.length - (intOf i).toNat)
  case atStart => exact ⟨0, Nat.zero_le _, rfl, by simp [Hid], hst.out⟩
  case round =>
    obtain ⟨k, hk, rfl, HR, HC⟩ := hrel
    have HJ := Lib.hid HC
    obtain ⟨c0, c1, hB, hs⟩ := HC
    by_cases hlt : k < xss.length
    · rcases hx3 with ⟨rfl, rfl⟩ | ⟨hxn, b, off, rfl, _, hxc⟩
      · exact absurd hlt (by simp)
      obtain ⟨u, Fk, hc, hr, _⟩ := hxc k hlt
      have hr' := Ty.row_below hr hB (Ty.row_lt hr)
      obtain ⟨ua, uc, rfl, hu1, hu2⟩ := Ty.row_len hr
      have k0 := (hc.keep (hB.block b hc.lt)).1
      cases hl : clauseB vars xss[k]
      · have HN : Hid (goodB vars xss = false) := good_no hlt hl
        go_wp2_with (go_at_call 25; refine (implIsClause_at hr' hl).mono ?_; rintro e w1 ⟨rfl, hb1⟩)
        go_ret
        exact ⟨ret_bool HN.out.symm, btr hB hb1⟩
      · have HN : Hid ((xss.take (k + 1)).all (clauseB vars) = true) := all_step hlt HR.out hl
        clear HR
        go_wp2_with (go_at_call 25; refine (implIsClause_at hr' hl).mono ?_; rintro e w1 ⟨rfl, hb1⟩)
        go_roundw
        case rel => exact ⟨k + 1, by omega, by go_num, HN, HJ.out.grow hb1⟩
        case measure => simp [intOf]; omega
    · obtain rfl : k = xss.length := by omega
      have HN := HR.out
      rw [List.take_length] at HN
      have hd : Hid (goodB vars xss = (inB vars 0 12 && decide ((xss.length : Int) ≤ 60))) := by
        unfold Hid goodB
        rw [HN, Bool.and_true]
        congr 1
        exact decide_eq_decide.2 (by omega)
      clear HR HN
      cases hv : inB vars 0 12
      · go_wp2_with (go_at_call 85; refine (varsOk_any _ _).mono ?_; rw [hv]; rintro e w1 ⟨rfl, rfl⟩)
        go_ret
        exact ⟨ret_bool (by rw [hd.out, hv]; rfl), hB⟩
      · go_wp2_with (go_at_call 85; refine (varsOk_any _ _).mono ?_; rw [hv]; rintro e w1 ⟨rfl, rfl⟩)
        go_ret
        exact ⟨ret_bool (by rw [hd.out, hv]; rfl), hB⟩

/- left out: the seat has no spec.l3Asked -/
end Go.Proofs.YtahbepajeplcmaaGreatDoor

/- Contracts: a number in a row, in the reference. -/
namespace Go.Proofs.YtahbepajeplcmaaGreatDoor
open Go.RowKit

/-- A number is in a row. -/
def hasI (xs : List Int) (x : Int) : Bool := xs.contains x
theorem hasI_no {xs : List Int} {x : Int} {k : Nat} (hk : k < xs.length) (h0 : hasI (xs.take k) x = false) (h : ¬ xs[k] = x) : hasI (xs.take (k + 1)) x = false := by
  unfold hasI at *
  rw [List.take_succ_eq_append_getElem hk, List.contains_append, h0]
  simp
  exact fun e => h e.symm
theorem hasI_yes {xs : List Int} {x : Int} {k : Nat} (hk : k < xs.length) (h : xs[k] = x) : hasI xs x = true := by
  unfold hasI
  subst h
  simp

set_option maxHeartbeats 1000000 in
theorem l1Has_any (v : Value) (xs : List Int) (F : List Nat) (x : Int) (w : World) (h : Ty.int.row false w v xs F) :
    Calls Tryz.prog 180 #[v, .int .i64 x] w fun e w' => e = .returned (.bool (hasI xs x)) ∧ w = w' := by
  obtain ⟨a, cap, rfl, hx1, hx2, _, hx3⟩ := row_int h
  go_enter Tryz.func180, Tryz.ntmps180
  go_wp2_with fail
  go_loopw [5] (fun i wr => ∃ k : Nat, k ≤ xs.length ∧ i = .int .i64 k ∧ Hid (hasI (xs.take k) x = false) ∧ w = wr) (fun i _ => xs.length - (intOf i).toNat)
  case atStart => exact ⟨0, Nat.zero_le _, rfl, by simp [Hid, hasI], rfl⟩
  case round =>
    obtain ⟨k, hk, rfl, HR, rfl⟩ := hrel
    by_cases hlt : k < xs.length
    · rcases hx3 with ⟨rfl, rfl⟩ | ⟨hxn, b, off, rfl, rfl, hxc⟩
      · exact absurd hlt (by simp)
      have k0 := (hxc k hlt).1
      by_cases he : xs[k] = x
      · have HN : Hid (hasI xs x = true) := hasI_yes hlt he
        have he' : (xs[k] == x) = true := by simpa using he
        clear he HR
        go_wp2_with fail
        go_ret
        exact ⟨ret_bool HN.out.symm, rfl⟩
      · have HN : Hid (hasI (xs.take (k + 1)) x = false) := hasI_no hlt HR.out he
        have he' : (xs[k] == x) = false := by simpa using he
        clear he HR
        go_wp2_with fail
        go_roundw
        case rel => exact ⟨k + 1, by omega, by go_num, HN, by first | rfl | trivial⟩
        case measure => simp [intOf]; omega
    · obtain rfl : k = xs.length := by omega
      have HN := HR.out
      rw [List.take_length] at HN
      replace HN := Lib.hid HN
      clear HR
      go_wp2_with fail
      go_ret
      exact ⟨ret_bool HN.out.symm, rfl⟩

set_option maxHeartbeats 1000000 in
theorem l2Has_any (v : Value) (xs : List Int) (F : List Nat) (x : Int) (w : World) (h : Ty.int.row false w v xs F) :
    Calls Tryz.prog 146 #[v, .int .i64 x] w fun e w' => e = .returned (.bool (hasI xs x)) ∧ w = w' := by
  go_enter Tryz.func146, Tryz.ntmps146
  go_wp2_with (go_at_call 180; refine (l1Has_any _ _ _ _ _ h).mono ?_; rintro e w1 ⟨rfl, rfl⟩)
  go_ret
  exact ⟨rfl, rfl⟩
theorem l2Has_at {v : Value} {xs : List Int} {F : List Nat} {x : Int} {w : World} {q : Bool} (h : Ty.int.row false w v xs F) (hq : hasI xs x = q) :
    Calls Tryz.prog 146 #[v, .int .i64 x] w fun e w' => e = .returned (.bool q) ∧ w = w' := hq ▸ l2Has_any v xs F x w h
end Go.Proofs.YtahbepajeplcmaaGreatDoor
