/- append onto an own row from any slice, empty or nil let in. No program in sight. -/
import Derived.Test.YtcdgpekefiplnaaSepA
namespace Go.Proofs.Ytcdgpekefiplnaa
open Go.RowKit

/-- A slice whose cells are these; a nil or empty one has none. -/
def Src (w : World) (A : Option Addr) (m size : Nat) (news : List Value) : Prop :=
  (m = 0 ∧ news = []) ∨ ∃ ad, A = some ad ∧ news.length = m * size ∧ ∀ j u, news[j]? = some u → w.cell? (ad.add j) = some u

section
variable {P : Program} {w : World} {t ty e : TypeId} {i : TypeInfo} {z : Value} {size bytes : Nat}
theorem run_append_src (ht : P.underlying t = some (.slice e)) (hi : P.info? e = some i) (hz : i.zero = some z) (hsize : i.size = size) (hby : i.bytes = bytes) (hzs : z.cells.size = size) (hsz : 0 < size)
    (v : Value) (n : Nat) (xs : List Value) (hown : w.ownsRow 0 e size v n xs) (A : Option Addr) (m c : Nat) (news : List Value) (hsrc : Src w A m size news) (h1 : ∀ u ∈ news, u.oneCell' = true)
    (h63 : n + m ≤ maxLen) (hbytes : (n + m) * bytes ≤ 140737488355328) :
    ∃ v' w', (Builtin.append_ #[t, t] ty #[v, .slice A m c]).run P w = .ok v' w' ∧ w'.ownsRow 0 e size v' (n + m) (xs ++ news) ∧ w.grownBy w' v.ownBlock ∧ (v'.ownBlock = v.ownBlock ∨ v'.ownBlock = some w.heap.size) := by
  rcases hsrc with ⟨rfl, rfl⟩ | ⟨ad, ha, hl, hn⟩
  · cases A with
    | some ad =>
      obtain ⟨v', w', h2, h3, h4, _, h5⟩ := run_append_own_at (P := P) w 0 t ty e i z size bytes ht hi hz hsize hby hzs hsz v n xs hown ad 0 c [] (by simp) (by simp) h1 h63 hbytes (Nat.zero_le _)
      exact ⟨v', w', h2, h3, h4, h5⟩
    | none =>
      refine ⟨v, w, ?_, by simpa using hown, World.grownBy.refl w _, .inl rfl⟩
      obtain ⟨_, ⟨rfl, rfl⟩ | ⟨g, cap, cur, rfl, _, _, hn, _⟩⟩ := hown
      · simp [Builtin.append_, run_underlying ht, sizeOf, typeInfo, hi, Builtin.lenOf, Builtin.firstCells]
      · simp [Builtin.append_, run_underlying ht, sizeOf, typeInfo, hi, Builtin.lenOf, Builtin.firstCells, hn, storeCells]
  · subst ha
    obtain ⟨v', w', h2, h3, h4, _, h5⟩ := run_append_own_at (P := P) w 0 t ty e i z size bytes ht hi hz hsize hby hzs hsz v n xs hown ad m c news hl hn h1 h63 hbytes (Nat.zero_le _)
    exact ⟨v', w', h2, h3, h4, h5⟩
theorem wp_append_src {o : Oper} {a : Act} {K : Act → World → Prop} {Q : Exit → Act → World → Prop} (s x : Operand)
    (ho : o.op = .call { callee := .builtin .append, args := #[s, x], argTypes := #[t, t] })
    (ht : P.underlying t = some (.slice e)) (hi : P.info? e = some i) (hz : i.zero = some z) (hsize : i.size = size) (hby : i.bytes = bytes) (hzs : z.cells.size = size) (hsz : 0 < size)
    (v : Value) (n : Nat) (xs : List Value) (hs : a.eval s = v) (hown : w.ownsRow 0 e size v n xs) (A : Option Addr) (m c : Nat) (news : List Value) (hx : a.eval x = .slice A m c) (hsrc : Src w A m size news) (h1 : ∀ u ∈ news, u.oneCell' = true)
    (h63 : n + m ≤ maxLen) (hbytes : (n + m) * bytes ≤ 140737488355328)
    (h : ∀ v' w', w'.ownsRow 0 e size v' (n + m) (xs ++ news) → w.grownBy w' v.ownBlock → (v'.ownBlock = v.ownBlock ∨ v'.ownBlock = some w.heap.size) → K (a.put o.dst v') w') : o.wp P a w K Q := by
  obtain ⟨v', w', hr, h2, h3, h4⟩ := run_append_src (P := P) (w := w) (ty := o.type) ht hi hz hsize hby hzs hsz v n xs hown A m c news hsrc h1 h63 hbytes
  unfold Oper.wp execOp
  simp only [ho, resolve, invoke, builtin, Sem.run_bind, Sem.run_pure, Result.andThen_ok, List.map_toArray, List.map_cons, List.map_nil, hs, hx, hr]
  exact h v' w' h2 h3 h4
theorem wpList_append_src {ops : Array Oper} {rest : List Oper} {o : Oper} {a : Act} {Q : Exit → Act → World → Prop} (hgd : o.guard = none) (s x : Operand)
    (ho : o.op = .call { callee := .builtin .append, args := #[s, x], argTypes := #[t, t] })
    (ht : P.underlying t = some (.slice e)) (hi : P.info? e = some i) (hz : i.zero = some z) (hsize : i.size = size) (hby : i.bytes = bytes) (hzs : z.cells.size = size) (hsz : 0 < size)
    (v : Value) (n : Nat) (xs : List Value) (hs : a.eval s = v) (hown : w.ownsRow 0 e size v n xs) (A : Option Addr) (m c : Nat) (news : List Value) (hx : a.eval x = .slice A m c) (hsrc : Src w A m size news) (h1 : ∀ u ∈ news, u.oneCell' = true)
    (h63 : n + m ≤ maxLen) (hbytes : (n + m) * bytes ≤ 140737488355328)
    (h : ∀ v' w', w'.ownsRow 0 e size v' (n + m) (xs ++ news) → w.grownBy w' v.ownBlock → (v'.ownBlock = v.ownBlock ∨ v'.ownBlock = some w.heap.size) → wpList P ops Q rest (a.put o.dst v') w') : wpList P ops Q (o :: rest) a w :=
  wpList_plain hgd fun _ hK => wp_append_src s x ho ht hi hz hsize hby hzs hsz v n xs hs hown A m c news hx hsrc h1 h63 hbytes fun v' w' h2 h3 h4 => hK _ _ (h v' w' h2 h3 h4)
theorem step_append_src {ops : Array Oper} {o : Oper} {a : Act} {K : Act → World → Prop} {Q : Exit → Act → World → Prop} {E : Prop} (hgd : o.guard = none) (s x : Operand)
    (ho : o.op = .call { callee := .builtin .append, args := #[s, x], argTypes := #[t, t] })
    (ht : P.underlying t = some (.slice e)) (hi : P.info? e = some i) (hz : i.zero = some z) (hsize : i.size = size) (hby : i.bytes = bytes) (hzs : z.cells.size = size) (hsz : 0 < size)
    (v : Value) (n : Nat) (xs : List Value) (hs : a.eval s = v) (hown : w.ownsRow 0 e size v n xs) (A : Option Addr) (m c : Nat) (news : List Value) (hx : a.eval x = .slice A m c) (hsrc : Src w A m size news) (h1 : ∀ u ∈ news, u.oneCell' = true)
    (h63 : n + m ≤ maxLen) (hbytes : (n + m) * bytes ≤ 140737488355328)
    (h : ∀ v' w', w'.ownsRow 0 e size v' (n + m) (xs ++ news) → w.grownBy w' v.ownBlock → (v'.ownBlock = v.ownBlock ∨ v'.ownBlock = some w.heap.size) → K (a.put o.dst v') w') :
    if Region.wanted o (yielded ops a.tmps) = true then Oper.wp P o a w K Q else E := by
  have hw : Region.wanted o (yielded ops a.tmps) = true := by simp [Region.wanted, hgd]
  rw [if_pos hw]
  exact wp_append_src s x ho ht hi hz hsize hby hzs hsz v n xs hs hown A m c news hx hsrc h1 h63 hbytes h
end

theorem add_none (b off j : Nat) : (⟨b, off, none⟩ : Addr).add j = ⟨b, off + j, none⟩ := by unfold Addr.add; split <;> simp_all
theorem Src.one {w : World} {b : Nat} {x : Value} (h : w.cell? ⟨b, 0, none⟩ = some x) : Src w (some ⟨b, 0, none⟩) 1 1 [x] :=
  .inr ⟨_, rfl, rfl, fun j u hj => by
    match j, hj with
    | 0, hj => simp at hj; subst hj; rw [add_none]; exact h⟩
theorem Src.keep {w w' : World} {A : Option Addr} {m size : Nat} {news : List Value} (h : Src w A m size news) (hk : ∀ a, A = some a → ∀ o u, w.cell? (a.add o) = some u → w'.cell? (a.add o) = some u) : Src w' A m size news := by
  rcases h with h | ⟨ad, rfl, h1, h2⟩
  · exact .inl h
  · exact .inr ⟨ad, rfl, h1, fun j u hj => hk _ rfl j u (h2 j u hj)⟩
theorem Src.grow {w w' : World} {A : Option Addr} {m size : Nat} {news : List Value} (h : Src w A m size news) (hb : Below w.heap.size w w') : Src w' A m size news :=
  h.keep fun _ _ _ _ hc => (hb.cell (World.block_lt_of_cell? _ _ hc)).trans hc
/-- A row as a source. -/
theorem row_src {α : Type} {T : Ty α} {wr : Bool} {w : World} {v : Value} {xs : List α} {F : List Nat} (h : T.row wr w v xs F) : ∃ A c cs G, v = .slice A xs.length c ∧ T.all wr w cs xs G ∧ Src w A xs.length T.size cs ∧ (∀ b ∈ G, b ∈ F) := by
  obtain ⟨a, cap, cs, G, rfl, h1, h2, hall, ⟨rfl, rfl⟩ | ⟨hs, hne, b, off, rfl, rfl, hc⟩⟩ := h
  · obtain ⟨rfl, rfl⟩ := hall
    exact ⟨a, cap, [], [], rfl, ⟨rfl, rfl⟩, .inl ⟨rfl, rfl⟩, by simp⟩
  · refine ⟨_, cap, cs, G, rfl, hall, .inr ⟨_, rfl, Ty.all_len hall, fun j u hj => ?_⟩, fun x hx => List.mem_cons_of_mem _ hx⟩
    have hjl := (List.getElem?_eq_some_iff.1 hj).1
    rw [add_none, (hc j hjl).1, ← List.getElem?_eq_getElem hjl, hj]
theorem row_src_int {wr : Bool} {w : World} {v : Value} {xs : List Int} {F : List Nat} (h : Ty.int.row wr w v xs F) : ∃ A c, v = .slice A xs.length c ∧ Src w A xs.length 1 (xs.map (.int .i64)) := by
  obtain ⟨A, c, cs, G, rfl, hall, hs, _⟩ := row_src h
  obtain ⟨rfl, _, _⟩ := Ty.all_int_inv hall
  exact ⟨A, c, rfl, hs⟩

/-- Where a slice from k on lies. -/
def cutA (A : Option Addr) (cap k size : Nat) : Option Addr := if cap = k then A else A.map (·.add (k * size))
section
variable {P : Program} {T e : TypeId} {i : TypeInfo} {size : Nat} {ρ : Operand → Value} {o : Oper} {x y : Operand} {A : Option Addr} {len cap k : Nat} {w : World}
theorem exec_slice_to (ho : o.op = .slice T x none (some y) none) (hx : ρ x = .slice A len cap) (hy : ρ y = .int .i64 k) (hT : P.underlying T = some (.slice e)) (hi : P.info? e = some i) (hk : k ≤ cap) :
    (execOp ρ o).run P w = .ok (.value (.slice A k cap)) w := by
  have hb : (Instr.sliceBounds true len cap none (some (.int .i64 k)) none).run P w = .ok (0, k, cap) w := by
    simp [Instr.sliceBounds, run_sliceBound (P := P) w .i64 (k : Int) cap .sliceAcap (by omega) (by omega)]
  have hA : (if cap = 0 then A else A.map (·.add 0)) = A := by
    split
    · rfl
    · cases A <;> simp [Addr.add]
  unfold execOp
  simp [ho, hx, hy, Instr.sliceAt, run_underlying hT, Instr.slice, hb, sizeOf, typeInfo, hi, hA]
theorem exec_slice_from (ho : o.op = .slice T x (some y) none none) (hx : ρ x = .slice A len cap) (hy : ρ y = .int .i64 k) (hT : P.underlying T = some (.slice e)) (hi : P.info? e = some i) (hs : i.size = size) (hk : k ≤ len) :
    (execOp ρ o).run P w = .ok (.value (.slice (cutA A cap k size) (len - k) (cap - k))) w := by
  have hb : (Instr.sliceBounds true len cap (some (.int .i64 k)) none none).run P w = .ok (k, len, cap) w := by
    simp [Instr.sliceBounds, run_sliceBound (P := P) w .i64 (k : Int) len .sliceB (by omega) (by omega)]
  subst hs
  unfold execOp cutA
  simp [ho, hx, hy, Instr.sliceAt, run_underlying hT, Instr.slice, hb, sizeOf, typeInfo, hi]
end
theorem Src.to {w : World} {A : Option Addr} {m size k : Nat} {news : List Value} (h : Src w A m size news) (hk : k ≤ m) : Src w A k size (news.take (k * size)) := by
  rcases h with ⟨rfl, rfl⟩ | ⟨ad, rfl, h1, h2⟩
  · exact .inl ⟨by omega, by simp⟩
  · refine .inr ⟨ad, rfl, ?_, fun j u hj => ?_⟩
    · rw [List.length_take, h1]
      have := Nat.mul_le_mul_right size hk
      omega
    · rw [List.getElem?_take] at hj
      split at hj
      · exact h2 j u hj
      · cases hj
theorem Src.from {w : World} {b off cap : Nat} {m size k : Nat} {news : List Value} (h : Src w (some ⟨b, off, none⟩) m size news) (hk : k ≤ m) (hm : m ≤ cap) : Src w (cutA (some ⟨b, off, none⟩) cap k size) (m - k) size (news.drop (k * size)) := by
  rcases h with ⟨rfl, rfl⟩ | ⟨ad, e, h1, h2⟩
  · exact .inl ⟨by omega, by simp⟩
  · cases e
    unfold cutA
    by_cases hc : cap = k
    · obtain rfl : m = k := by omega
      exact .inl ⟨by omega, by rw [List.drop_eq_nil_of_le (by omega)]⟩
    · rw [if_neg hc]
      refine .inr ⟨_, rfl, by rw [List.length_drop, h1, Nat.sub_mul], fun j u hj => ?_⟩
      rw [List.getElem?_drop] at hj
      have := h2 _ u hj
      rw [add_none] at this
      show w.cell? (((⟨b, off, none⟩ : Addr).add (k * size)).add j) = some u
      rw [add_none, add_none, Nat.add_assoc]
      exact this
theorem Src.from_nil {w : World} {m cap size k : Nat} {news : List Value} (h : Src w none m size news) (hk : k ≤ m) : Src w (cutA none cap k size) (m - k) size (news.drop (k * size)) := by
  rcases h with ⟨rfl, rfl⟩ | ⟨ad, e, _⟩
  · exact .inl ⟨by omega, by simp⟩
  · cases e
end Go.Proofs.Ytcdgpekefiplnaa
