/- Contracts: the names of a book, in the program. -/
import Derived.Test.YtcapiijpfoapkaaBookM
import Derived.Lib.SlicesCompact
namespace Go.Proofs.Ytcapiijpfoapkaa
open Go.RowKit

theorem bang {l : List (List UInt8)} {j : Nat} (h : j < l.length) : l.toArray[j]! = l[j] := by rw [getElem!_pos l.toArray j (by simpa using h)]; simp
theorem compact_mem {l : List (List UInt8)} {x : List UInt8} : x ∈ Lib.compact l ↔ x ∈ l := by
  unfold Lib.compact Lib.compactUpTo
  rw [List.mem_map]
  constructor
  · rintro ⟨j, hj, rfl⟩
    have hjl := List.mem_range.1 (List.mem_filter.1 hj).1
    rw [bang hjl]
    exact List.getElem_mem hjl
  · intro hx
    obtain ⟨j, hj, rfl⟩ := List.getElem_of_mem hx
    have key : ∀ j (hj : j < l.length), ∃ i, i ∈ (List.range l.length).filter (Lib.keeps l.toArray) ∧ l.toArray[i]! = l[j] := by
      intro j
      induction j with
      | zero => exact fun hj => ⟨0, List.mem_filter.2 ⟨List.mem_range.2 hj, by simp [Lib.keeps]⟩, bang hj⟩
      | succ j ih =>
        intro hj
        by_cases e : l[j + 1] = l[j]
        · obtain ⟨i, hi, h2⟩ := ih (by omega)
          exact ⟨i, hi, by rw [h2, e]⟩
        · refine ⟨j + 1, List.mem_filter.2 ⟨List.mem_range.2 hj, ?_⟩, bang hj⟩
          refine Lib.keeps_pos ?_
          rw [Nat.add_sub_cancel, bang hj, bang (by omega)]
          exact e
    exact key j hj
theorem compact_asc {l : List (List UInt8)} (h : l.Pairwise fun a b => LessN a b ∨ a = b) : (Lib.compact l).Pairwise LessN := by
  unfold Lib.compact Lib.compactUpTo
  rw [List.pairwise_map]
  have hr : ((List.range l.length).filter (Lib.keeps l.toArray)).Pairwise (· < ·) := List.Pairwise.filter _ List.pairwise_lt_range
  refine hr.imp_of_mem fun {i j} hi hj hij => ?_
  have hil := List.mem_range.1 (List.mem_filter.1 hi).1
  have hjl := List.mem_range.1 (List.mem_filter.1 hj).1
  have hk := (List.mem_filter.1 hj).2
  rw [bang hil, bang hjl]
  have hget := List.pairwise_iff_getElem.1 h
  have hne : l[j] ≠ l[j - 1]'(by omega) := fun e => by
    have : Lib.keeps l.toArray j = false := Lib.keeps_neg (by omega) (by rw [bang hjl, bang (by omega)]; exact e)
    rw [this] at hk; cases hk
  have h1 : LessN (l[j - 1]'(by omega)) l[j] := by
    rcases hget (j - 1) j (by omega) hjl (by omega) with h | h
    · exact h
    · exact absurd h.symm hne
  by_cases e : i = j - 1
  · subst e; exact h1
  · rcases hget i (j - 1) hil (by omega) (by omega) with h | h
    · exact less_trans h h1
    · rw [h]; exact h1
theorem names_weak {xs : List Rec} (h : bookB xs = true) : (xs.map Rec.name).Pairwise fun a b => LessN a b ∨ a = b := by
  rw [List.pairwise_map]
  refine (book_pair h).imp fun {a b} hab => ?_
  simp only [beforeB, Bool.or_eq_true, Bool.and_eq_true, beq_iff_eq] at hab
  rcases hab with h | ⟨h, _⟩
  · exact .inl h
  · exact .inr h

theorem own_view {w : World} {v : Value} {B : Nat} {e : TypeId} {n : Nat} {cs : List Value} (h : w.ownsRow B e 1 v n cs) : cs.length = n ∧ ((v = .slice none 0 0 ∧ n = 0 ∧ cs = []) ∨ ∃ g c, v = .slice (some ⟨g, 0, none⟩) n c ∧ n ≤ c ∧ c ≤ 9223372036854775807 ∧ ∀ j u, cs[j]? = some u → w.cell? ⟨g, j, none⟩ = some u) := by
  obtain ⟨hl, ⟨rfl, rfl⟩ | ⟨g, cap, cur, rfl, hg, hh, hn, hm, hcs, ht⟩⟩ := h
  · rw [Nat.zero_mul] at hl
    exact ⟨hl, .inl ⟨rfl, rfl, List.length_eq_zero_iff.1 hl⟩⟩
  · rw [Nat.mul_one] at hl
    refine ⟨hl, .inr ⟨g, cap, rfl, hn, by unfold maxLen at hm; omega, fun j u hj => ?_⟩⟩
    have hlt := (List.getElem?_eq_some_iff.1 hj).1
    rw [hown_cell hh ht (by omega)]; exact hj
theorem own_ptr {w : World} {B : Nat} {e : TypeId} {n c : Nat} {A : Option Addr} {cs : List Value} (h : w.ownsRow B e 1 (.slice A n c) n cs) (hn : 0 < n) : ∃ g, A = some ⟨g, 0, none⟩ := by
  obtain ⟨_, ⟨e, h0, _⟩ | ⟨g', c', e, _⟩⟩ := own_view h
  · omega
  · simp only [Value.slice.injEq] at e
    exact ⟨g', e.1⟩
/-- An own row as a block. -/
theorem Sp.own_box {w0 w : World} {ps : List Asn} {i : Nat} {e : TypeId} {g n c : Nat} {cs : List Value} (h : Sp w0 w ps) (hi : ps[i]? = some (Own e 1 (.slice (some ⟨g, 0, none⟩) n c) n cs)) :
    ∃ cur, Sp w0 w (ps.set i (Box g e cur)) ∧ cur.size = c ∧ cur.toList.take n = cs ∧ n ≤ c ∧ c ≤ 9223372036854775807 := by
  obtain ⟨Fi, ⟨rfl, ho⟩, hF, hall⟩ := h.upd hi
  obtain ⟨hl, ⟨he, -⟩ | ⟨g', cap, cur, he, hg, hh, hn, hm, hcs, ht⟩⟩ := ho
  · cases he
  · simp only [Value.slice.injEq, Option.some.injEq, Addr.mk.injEq] at he
    obtain ⟨⟨rfl, _⟩, _, rfl⟩ := he
    rw [Nat.mul_one] at hcs ht
    exact ⟨cur, hall w (Box g e cur) [g] (Chg.refl _ _) ⟨rfl, hh⟩ (fun b hb => .inl (by rw [List.mem_singleton] at hb; subst hb; simp [Value.ownBlock])), hcs, ht, hn, hm⟩
/-- Names in a block. -/
def NamesIn (cur : Array Value) (ns : List (List UInt8)) : Prop := ∀ j (hj : j < ns.length), cur[j]? = some (stV ns[j])
def NamesPost (xs : List Rec) (w : World) (e : Ending) (w' : World) : Prop :=
  ∃ a cap ns, e = .returned (.tuple #[.slice a ns.length cap, .bool true]) ∧ ns.Pairwise LessN ∧ (∀ n, n ∈ ns ↔ n ∈ xs.map Rec.name) ∧ ns.length ≤ 24 ∧ ns.length ≤ cap ∧ cap ≤ 9223372036854775807 ∧
    ((ns = [] ∧ Below w.heap.size w w') ∨ ∃ g cur, a = some ⟨g, 0, none⟩ ∧ Sp w w' [Box g 9 cur] ∧ cur.size = cap ∧ NamesIn cur ns)
theorem compact_len (l : List (List UInt8)) : (Lib.compact l).length ≤ l.length := by
  unfold Lib.compact Lib.compactUpTo
  rw [List.length_map]
  exact Nat.le_trans (List.length_filter_le _ _) (by simp)

/-- What Compact leaves in the block. -/
theorem compact_box {w w' : World} {w0 : World} {g q : Nat} {cur : Array Value} {l : List (List UInt8)} (h : Sp w0 w [Box g 9 cur]) (hs : l.length ≤ cur.size)
    (_ : NamesIn cur l) (e : w' = Sort.putRow encStr (Sort.ahead w q) g 0 (Lib.compact l ++ List.replicate (l.length - (Lib.compact l).length) []).toArray) :
    ∃ cur', Sp w0 w' [Box g 9 cur'] ∧ cur'.size = cur.size ∧ NamesIn cur' (Lib.compact l) := by
  subst e
  obtain ⟨Fi, ⟨rfl, hh⟩, hF, hall⟩ := h.upd (i := 0) rfl
  have hcl := compact_len l
  generalize hD : (Lib.compact l ++ List.replicate (l.length - (Lib.compact l).length) []).toArray = D
  have hDs : D.size = l.length := by rw [← hD]; simp; omega
  refine ⟨Sort.putCells encStr 0 D cur, ?_, by simp [Sort.putCells], fun j hj => ?_⟩
  · refine hall _ (Box g 9 (Sort.putCells encStr 0 D cur)) [g] ⟨rfl, rfl, rfl, by simp [Sort.ahead], fun k hk hn => ?_⟩ ⟨rfl, ?_⟩ (fun b hb => .inl hb)
    · have hne : ¬ g = k := fun e => hn (by simp [e])
      simp [Sort.putRow, Sort.mapBlock, Sort.ahead, Array.getElem?_modify, hne]
    · simp [Sort.putRow, Sort.mapBlock, Sort.ahead, Array.getElem?_modify, hh, Sort.onCells]
  · have hjl : j < l.length := by omega
    have hDj : D[j]! = (Lib.compact l)[j] := by
      rw [← hD, getElem!_pos _ j (by simp; omega)]
      simp [List.getElem_append_left hj]
    unfold Sort.putCells
    rw [Array.getElem?_mapIdx, Array.getElem?_eq_getElem (show j < cur.size by omega)]
    simp only [Option.map_some, Nat.zero_le, true_and, Nat.zero_add, Nat.sub_zero]
    rw [if_pos (by omega), hDj]
    rfl
end Go.Proofs.Ytcapiijpfoapkaa
