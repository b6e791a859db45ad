/- Memory: own rows of truth values, stores into own rows, diagrams that can be read. -/
import Derived.Test.YtgcdifabbaoomaaDgF
namespace Go.Proofs.Ytgcdifabbaoomaa
open Go.RowKit

/-- An own row, told by its block. -/
theorem own_block {w : World} {B : Nat} {e : TypeId} {size : Nat} {v : Value} {n : Nat} {xs : List Value} (h : w.ownsRow B e size v n xs) (hn : 0 < n) :
    ∃ g cap cur, v = .slice (some ⟨g, 0, none⟩) n cap ∧ B ≤ g ∧ w.heap[g]? = some (.cells cur e (0, 0)) ∧ n ≤ cap ∧ cap ≤ maxLen ∧ cur.size = cap * size ∧ cur.toList.take (n * size) = xs := by
  obtain ⟨_, ⟨_, h0⟩ | h⟩ := h
  · omega
  · exact h
theorem own_at {w : World} {g cap : Nat} {cur : Array Value} {e : TypeId} {size n : Nat} {xs : List Value} (hh : w.heap[g]? = some (.cells cur e (0, 0))) (ht : cur.toList.take (n * size) = xs) {o : Nat} (ho : o < n * size) : w.cell? ⟨g, o, none⟩ = xs[o]? ∧ w.frozen? ⟨g, o, none⟩ = false :=
  ⟨hown_cell hh ht ho, by simp [World.frozen?, hh]⟩
/-- A store into an own row. -/
theorem Sp.own_put {w0 w : World} {ps : List Asn} {i g cap n size o : Nat} {e : TypeId} {xs : List Value} (h : Sp w0 w ps) (hi : ps[i]? = some (Own e size (.slice (some ⟨g, 0, none⟩) n cap) n xs)) (u : Value) (ho : o < n * size) :
    Sp w0 (w.setCell ⟨g, o, none⟩ u) (ps.set i (Own e size (.slice (some ⟨g, 0, none⟩) n cap) n (xs.set o u))) := by
  obtain ⟨F, ⟨rfl, hh⟩, hF, hall⟩ := h.upd hi
  have hlen := hh.1
  obtain ⟨g', cap', cur, e1, h0, hg, hn, hm, hc, ht⟩ := own_block hh (by
    rcases Nat.eq_zero_or_pos n with rfl | h
    · simp at ho
    · exact h)
  simp only [Value.slice.injEq, Option.some.injEq, Addr.mk.injEq] at e1
  obtain ⟨⟨rfl, _⟩, _, rfl⟩ := e1
  have hset : (w.setCell ⟨g, o, none⟩ u).heap[g]? = some (.cells (cur.setIfInBounds o u) e (0, 0)) := by
    simp [World.setCell, Array.getElem?_modify]
    exact ⟨_, hg, rfl⟩
  refine hall _ _ [g] ?_ ⟨rfl, by rw [List.length_set]; exact hlen, .inr ⟨g, cap, cur.setIfInBounds o u, rfl, Nat.zero_le _, hset, hn, hm, by rw [Array.size_setIfInBounds]; exact hc, ?_⟩⟩ fun b hb => .inl hb
  · exact ⟨rfl, rfl, rfl, by simp [World.setCell], fun k _ hn => Below.heap_setCell _ _ _ _ (by simpa [Value.ownBlock] using hn)⟩
  · rw [Array.toList_setIfInBounds, List.take_set, ht]

/-- Truth values. -/
def blV (n : Nat) (f : Nat → Bool) : List Value := (List.range n).map fun j => .bool (f j)
def BlAt (w : World) (A : Option Addr) (n : Nat) (f : Nat → Bool) : Prop := ∀ j, j < n → ∃ b off, A = some ⟨b, off, none⟩ ∧ w.cell? ⟨b, off + j, none⟩ = some (.bool (f j))
theorem blV_len (n : Nat) (f : Nat → Bool) : (blV n f).length = n := by simp [blV]
theorem blV_snoc (n : Nat) (f : Nat → Bool) : blV (n + 1) f = blV n f ++ [.bool (f n)] := by simp [blV, List.range_succ]
theorem blV_get {n j : Nat} (f : Nat → Bool) (h : j < n) : (blV n f)[j]? = some (.bool (f j)) := by simp [blV, h]
theorem blV_congr {n : Nat} {f g : Nat → Bool} (h : ∀ j, j < n → f j = g j) : blV n f = blV n g := by
  unfold blV
  exact List.map_congr_left fun j hj => by rw [h j (List.mem_range.1 hj)]
theorem blV_set {n k : Nat} (f : Nat → Bool) (x : Bool) : (blV n f).set k (.bool x) = blV n (fun j => if j = k then x else f j) := by
  apply List.ext_getElem?
  intro j
  rw [List.getElem?_set, blV_len]
  by_cases hj : j < n
  · rw [blV_get _ hj, blV_get _ hj]
    by_cases h : k = j
    · subst h; simp [hj]
    · rw [if_neg h, if_neg (fun e => h e.symm)]
  · rw [List.getElem?_eq_none (by rw [blV_len]; omega), List.getElem?_eq_none (by rw [blV_len]; omega)]
    split
    · rw [if_neg (by omega)]
    · rfl
theorem BlAt.grow {w w' : World} {A : Option Addr} {n : Nat} {f : Nat → Bool} (h : BlAt w A n f) (hb : Below w.heap.size w w') : BlAt w' A n f := fun j hj => by
  obtain ⟨b, off, e, hc⟩ := h j hj
  exact ⟨b, off, e, (bcell hb).1 b _ (World.block_lt_of_cell? _ _ hc) ▸ hc⟩
theorem bl_own {w : World} {B : Nat} {e : TypeId} {v : Value} {n : Nat} {f : Nat → Bool} (h : w.ownsRow B e 1 v n (blV n f)) : ∃ A c, v = .slice A n c ∧ BlAt w A n f := by
  rcases Nat.eq_zero_or_pos n with rfl | hn
  · obtain ⟨a, c, rfl⟩ := own_slice h
    exact ⟨a, c, rfl, fun j hj => absurd hj (by omega)⟩
  · obtain ⟨g, cap, cur, rfl, _, hh, _, _, _, ht⟩ := own_block h hn
    exact ⟨_, cap, rfl, fun j hj => ⟨g, 0, rfl, by rw [Nat.zero_add, hown_cell hh ht (by omega), blV_get f hj]⟩⟩
theorem infoBl : (Try.prog.info? 4).map (fun i => (i.zero, i.size, i.bytes)) = some (some (.bool false), 1, 1) := by kernel_rfl
/-- Two results: a diagram, and whether there is one. -/
def DgTold (w : World) (ok : Bool) (r : Int) (ns : List Nd) (e : Ending) (w' : World) : Prop := ∃ A c, e = .returned (.tuple #[dgV r (.slice A ns.length c), .bool ok]) ∧ NdAt w' A ns ∧ (∀ a, A = some a → w.heap.size ≤ a.block) ∧ Below w.heap.size w w'
def outR (ok : Bool) (vars : Int) (f : Nat → Bool) : Int := if ok then dgR vars.toNat f else 0
def outN (ok : Bool) (vars : Int) (f : Nat → Bool) : List Nd := if ok then dgN vars.toNat f else []
theorem NdAt.nil (w : World) : NdAt w none [] := ⟨fun j hj => absurd hj (by simp), by simp⟩
/-- What is known of a valid diagram. -/
theorem good_parts {vars r : Int} {ns : List Nd} (h : goodD vars r ns = true) : (0 ≤ vars ∧ vars ≤ 6) ∧ ns.length ≤ 63 ∧ (0 ≤ r ∧ r ≤ ns.length + 1) ∧ WkN ns := by
  unfold goodD at h
  rw [Bool.and_eq_true, Bool.and_eq_true, Bool.and_eq_true, inB_def, inB_def, decide_eq_true_eq, ndsB_ok] at h
  exact ⟨h.1.1.1, h.1.1.2, h.1.2, OkN.wk h.2⟩
end Go.Proofs.Ytgcdifabbaoomaa
