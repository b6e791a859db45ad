/- Own rows: their blocks, stores into them, parts in front. -/
import Derived.Test.YtcdgpekefiplnaaSepA
import Derived.Test.YtcdgpekefiplnaaMemB
namespace Go.Proofs.Ytcdgpekefiplnaa
open Go.RowKit

theorem owns_base {w : World} {B : Nat} {e : TypeId} {size : Nat} {v : Value} {n : Nat} {xs : List Value} (h : w.ownsRow 0 e size v n xs) (hB : ∀ g, v.ownBlock = some g → B ≤ g) : w.ownsRow B e size v n xs := by
  obtain ⟨hl, h | ⟨g, cap, cur, rfl, hg, r⟩⟩ := h
  · exact ⟨hl, .inl h⟩
  · exact ⟨hl, .inr ⟨g, cap, cur, rfl, hB g rfl, r⟩⟩
theorem owns_zero {w : World} {B : Nat} {e : TypeId} {size : Nat} {v : Value} {n : Nat} {xs : List Value} (h : w.ownsRow B e size v n xs) : w.ownsRow 0 e size v n xs := by
  obtain ⟨hl, h | ⟨g, cap, cur, rfl, hg, r⟩⟩ := h
  · exact ⟨hl, .inl h⟩
  · exact ⟨hl, .inr ⟨g, cap, cur, rfl, Nat.zero_le _, r⟩⟩
theorem owns_ge {w : World} {B : Nat} {e : TypeId} {size : Nat} {v : Value} {n : Nat} {xs : List Value} (h : w.ownsRow B e size v n xs) : ∀ g, v.ownBlock = some g → B ≤ g := by
  obtain ⟨hl, ⟨rfl, _⟩ | ⟨g, cap, cur, rfl, hg, r⟩⟩ := h
  · intro g hg; cases hg
  · intro g' hg'
    obtain rfl : g = g' := by simpa [Value.ownBlock] using hg'
    exact hg
/-- The row that a list of parts owns, at the end. -/
theorem Sp.owns_end {w0 w : World} {ps : List Asn} {i : Nat} {size n : Nat} {e : TypeId} {v : Value} {xs : List Value} (h : Sp w0 w ps) (hi : ps[i]? = some (Own e size v n xs)) : w.ownsRow w0.heap.size e size v n xs := by
  obtain ⟨F, ⟨rfl, h1⟩, h2⟩ := h.get hi
  exact owns_base h1 fun g hg => h2 g (by simp [hg])
theorem Sp.own_call {w0 w w' : World} {ps : List Asn} {size n : Nat} {e : TypeId} {v : Value} {xs : List Value} (h : Sp w0 w ps) (hb : Below w.heap.size w w') (ho : w'.ownsRow w.heap.size e size v n xs) : Sp w0 w' (Own e size v n xs :: ps) :=
  h.own_new hb (owns_zero ho) (owns_ge ho)
theorem sep_append : ∀ {qs ps : List Asn} {w : World} {F G : List Nat}, sep qs w F → sep ps w G → (∀ b ∈ F, b ∉ G) → sep (qs ++ ps) w (F ++ G)
  | [], ps, w, F, G, h, k, hd => by
    obtain rfl : F = [] := h
    exact k
  | q :: qs, ps, w, F, G, h, k, hd => by
    obtain ⟨F1, F2, rfl, h1, h2, h3⟩ := h
    refine ⟨F1, F2 ++ G, by rw [List.append_assoc], fun b hb hb2 => ?_, h2, sep_append h3 k fun b hb => hd b (List.mem_append.2 (.inr hb))⟩
    rcases List.mem_append.1 hb2 with h | h
    · exact h1 b hb h
    · exact hd b (List.mem_append.2 (.inl hb)) h
/-- Parts made by a call go in front. -/
theorem Sp.seq {w0 w w' : World} {ps qs : List Asn} (h : Sp w0 w ps) (k : Sp w w' qs) : Sp w0 w' (qs ++ ps) := by
  obtain ⟨h1, G, h2, h3⟩ := h
  obtain ⟨k1, F, k2, k3⟩ := k
  refine ⟨btr h1 k1, F ++ G, sep_append k2 (sep_keep h2 fun b hm => k1.block b (sep_lt h2 b hm)) (fun b hb hb2 => ?_), fun b hb => ?_⟩
  · have := k3 b hb; have := sep_lt h2 b hb2; omega
  · rcases List.mem_append.1 hb with h | h
    · have := k3 b h; have := h1.size; omega
    · exact h3 b h
theorem own_slice {w : World} {B : Nat} {e : TypeId} {size : Nat} {v : Value} {n : Nat} {xs : List Value} (h : w.ownsRow B e size v n xs) : ∃ a c, v = .slice a n c := by
  obtain ⟨_, ⟨rfl, rfl⟩ | ⟨g, cap, cur, rfl, _⟩⟩ := h
  · exact ⟨_, _, rfl⟩
  · exact ⟨_, _, rfl⟩
theorem own_from {w : World} {B : Nat} {e : TypeId} {size : Nat} {A : Option Addr} {n c : Nat} {k : Nat} {xs : List Value} (h : w.ownsRow B e size (.slice A n c) k xs) : ∀ a, A = some a → B ≤ a.block := by
  rintro a rfl
  exact owns_ge h a.block rfl
/-- An own row, told by its block. -/
theorem own_block {w : World} {B : Nat} {e : TypeId} {size : Nat} {v : Value} {n : Nat} {xs : List Value} (h : w.ownsRow B e size v n xs) (hn : 0 < n) :
    ∃ g cap cur, v = .slice (some ⟨g, 0, none⟩) n cap ∧ B ≤ g ∧ w.heap[g]? = some (.cells cur e (0, 0)) ∧ n ≤ cap ∧ cap ≤ maxLen ∧ cur.size = cap * size ∧ cur.toList.take (n * size) = xs := by
  obtain ⟨_, ⟨_, h0⟩ | h⟩ := h
  · omega
  · exact h
theorem own_at {w : World} {g : Nat} {cur : Array Value} {e : TypeId} {size n : Nat} {xs : List Value} (hh : w.heap[g]? = some (.cells cur e (0, 0))) (ht : cur.toList.take (n * size) = xs) {o : Nat} (ho : o < n * size) : w.cell? ⟨g, o, none⟩ = xs[o]? ∧ w.frozen? ⟨g, o, none⟩ = false :=
  ⟨hown_cell hh ht ho, by simp [World.frozen?, hh]⟩
/-- A store into an own row. -/
theorem Sp.own_put {w0 w : World} {ps : List Asn} {i g cap n size o : Nat} {e : TypeId} {xs : List Value} (h : Sp w0 w ps) (hi : ps[i]? = some (Own e size (.slice (some ⟨g, 0, none⟩) n cap) n xs)) (u : Value) (ho : o < n * size) :
    Sp w0 (w.setCell ⟨g, o, none⟩ u) (ps.set i (Own e size (.slice (some ⟨g, 0, none⟩) n cap) n (xs.set o u))) := by
  obtain ⟨F, ⟨rfl, hh⟩, hF, hall⟩ := h.upd hi
  have hlen := hh.1
  obtain ⟨g', cap', cur, e1, h0, hg, hn, hm, hc, ht⟩ := own_block hh (by
    rcases Nat.eq_zero_or_pos n with rfl | h
    · simp at ho
    · exact h)
  simp only [Value.slice.injEq, Option.some.injEq, Addr.mk.injEq] at e1
  obtain ⟨⟨rfl, _⟩, _, rfl⟩ := e1
  have hset : (w.setCell ⟨g, o, none⟩ u).heap[g]? = some (.cells (cur.setIfInBounds o u) e (0, 0)) := by
    simp [World.setCell, Array.getElem?_modify]
    exact ⟨_, hg, rfl⟩
  refine hall _ _ [g] ?_ ⟨rfl, by rw [List.length_set]; exact hlen, .inr ⟨g, cap, cur.setIfInBounds o u, rfl, Nat.zero_le _, hset, hn, hm, by rw [Array.size_setIfInBounds]; exact hc, ?_⟩⟩ fun b hb => .inl hb
  · exact ⟨rfl, rfl, rfl, by simp [World.setCell], fun k _ hn => Below.heap_setCell _ _ _ _ (by simpa [Value.ownBlock] using hn)⟩
  · rw [Array.toList_setIfInBounds, List.take_set, ht]
end Go.Proofs.Ytcdgpekefiplnaa
