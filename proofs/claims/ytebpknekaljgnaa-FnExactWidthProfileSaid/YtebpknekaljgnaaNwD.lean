/- Memory facts: rows of numbers that are only read, and own rows that point to them. -/
import Derived.Test.YtebpknekaljgnaaNwC
namespace Go.Proofs.Ytebpknekaljgnaa
open Go.RowKit

/-- Rows of numbers that are only read, with all that they reach. -/
def Pool (K : List (Value × List Int)) : Asn where
  p w F := (∀ b ∈ F, b < w.heap.size) ∧ ∀ q ∈ K, ∃ G, Ty.int.row false w q.1 q.2 G ∧ ∀ b ∈ G, b ∈ F
  lt h := h.1
  keep := by
    rintro w w' F ⟨h1, h2⟩ hk
    refine ⟨fun b hb => ?_, fun q hq => ?_⟩
    · have := hk b hb
      rw [Array.getElem?_eq_getElem (h1 b hb)] at this
      exact (Array.getElem?_eq_some_iff.1 this).1
    · obtain ⟨G, h3, h4⟩ := h2 q hq
      exact ⟨G, Ty.row_keep h3 fun b hb => hk b (h4 b hb), h4⟩
/-- An own row of numbers. -/
abbrev Ints (v : Value) (ys : List Int) : Asn := Own 3 1 v ys.length (ys.map (.int .i64))
/-- An own row of clauses, told with the values of its elements. -/
abbrev Cls (v : Value) (ks : List (Value × List Int)) : Asn := Own 25 1 v ks.length (ks.map Prod.fst)

theorem sep_append : ∀ {qs ps : List Asn} {w : World} {F G : List Nat}, sep qs w F → sep ps w G → (∀ b ∈ F, b ∉ G) → sep (qs ++ ps) w (F ++ G)
  | [], ps, w, F, G, h, k, hd => by
    obtain rfl : F = [] := h
    exact k
  | q :: qs, ps, w, F, G, h, k, hd => by
    obtain ⟨F1, F2, rfl, h1, h2, h3⟩ := h
    refine ⟨F1, F2 ++ G, by rw [List.append_assoc], fun b hb hb2 => ?_, h2, sep_append h3 k fun b hb => hd b (List.mem_append.2 (.inr hb))⟩
    rcases List.mem_append.1 hb2 with h | h
    · exact h1 b hb h
    · exact hd b (List.mem_append.2 (.inl hb)) h
theorem sep_front : ∀ {qs ps : List Asn} {w : World} {F : List Nat}, sep (qs ++ ps) w F → ∃ F1, sep qs w F1 ∧ ∀ b ∈ F1, b ∈ F
  | [], ps, w, F, _ => ⟨[], rfl, by simp⟩
  | q :: qs, ps, w, F, h => by
    obtain ⟨F1, F2, rfl, h1, h2, h3⟩ := h
    obtain ⟨F3, h4, h5⟩ := sep_front h3
    refine ⟨F1 ++ F3, ⟨F1, F3, rfl, fun b hb hb2 => h1 b hb (h5 b hb2), h2, h4⟩, fun b hb => ?_⟩
    rcases List.mem_append.1 hb with h | h
    · exact List.mem_append.2 (.inl h)
    · exact List.mem_append.2 (.inr (h5 b h))
/-- Parts made by a call go in front. -/
theorem Sp.seq {w0 w w' : World} {ps qs : List Asn} (h : Sp w0 w ps) (k : Sp w w' qs) : Sp w0 w' (qs ++ ps) := by
  obtain ⟨h1, G, h2, h3⟩ := h
  obtain ⟨k1, F, k2, k3⟩ := k
  refine ⟨btr h1 k1, F ++ G, sep_append k2 (sep_keep h2 fun b hm => k1.block b (sep_lt h2 b hm)) (fun b hb hb2 => ?_), fun b hb => ?_⟩
  · have := k3 b hb; have := sep_lt h2 b hb2; omega
  · rcases List.mem_append.1 hb with h | h
    · have := k3 b h; have := h1.size; omega
    · exact h3 b h
/-- The parts behind are let go. -/
theorem Sp.front {w0 w : World} {ps qs : List Asn} (h : Sp w0 w (qs ++ ps)) : Sp w0 w qs := by
  obtain ⟨h1, G, h2, h3⟩ := h
  obtain ⟨F, h4, h5⟩ := sep_front h2
  exact ⟨h1, F, h4, fun b hb => h3 b (h5 b hb)⟩

theorem sep_bring {w : World} : ∀ {ps : List Asn} {F : List Nat} {i : Nat} {q : Asn}, sep ps w F → ps[i]? = some q → ∃ F', sep (q :: ps.eraseIdx i) w F' ∧ ∀ b ∈ F', b ∈ F
  | [], _, _, _, _, h => by simp at h
  | p :: ps, F, 0, q, h, hi => by
    simp at hi; subst hi
    exact ⟨F, h, fun _ h => h⟩
  | p :: ps, _, i + 1, q, h, hi => by
    obtain ⟨F1, F2, rfl, hd, h1, h2⟩ := h
    obtain ⟨F', ⟨F3, F4, rfl, hd', h3, h4⟩, hs⟩ := sep_bring (i := i) h2 (by simpa using hi)
    refine ⟨F3 ++ (F1 ++ F4), ⟨F3, F1 ++ F4, rfl, fun b hb hb2 => ?_, h3, F1, F4, rfl, fun b hb hb2 => hd b hb (hs b (List.mem_append.2 (.inr hb2))), h1, h4⟩, fun b hb => ?_⟩
    · rcases List.mem_append.1 hb2 with h | h
      · exact hd b h (hs b (List.mem_append.2 (.inl hb)))
      · exact hd' b hb h
    · simp only [List.mem_append] at hb ⊢
      rcases hb with h | h | h
      · exact .inr (hs b (List.mem_append.2 (.inl h)))
      · exact .inl h
      · exact .inr (hs b (List.mem_append.2 (.inr h)))
section
variable {w0 w w' : World} {ps : List Asn} {i j : Nat} {q : Asn} {K ks : List (Value × List Int)} {v : Value}
/-- A part is brought to the front. -/
theorem Sp.bring (h : Sp w0 w ps) (hi : ps[i]? = some q) : Sp w0 w (q :: ps.eraseIdx i) := by
  obtain ⟨h1, F, h2, h3⟩ := h
  obtain ⟨F', h4, h5⟩ := sep_bring h2 hi
  exact ⟨h1, F', h4, fun b hb => h3 b (h5 b hb)⟩
theorem Sp.pool_nil (h : Sp w0 w ps) : Sp w0 w (Pool [] :: ps) := h.new (F := []) (bb _) ⟨by simp, by simp⟩ (by simp)
theorem Sp.pool_at (h : Sp w0 w ps) (hi : ps[i]? = some (Pool K)) {r : Value × List Int} (hr : r ∈ K) : ∃ G, Ty.int.row false w r.1 r.2 G := by
  obtain ⟨F, hp, _⟩ := h.get hi
  obtain ⟨G, h1, _⟩ := hp.2 r hr
  exact ⟨G, h1⟩
theorem Sp.pool_add {xs : List Int} (h : Sp w0 w ps) (hi : ps[i]? = some (Pool K)) (hb : Below w.heap.size w w') (ho : w'.ownsRow w.heap.size 3 1 v xs.length (xs.map (.int .i64))) (hI : ∀ x ∈ xs, I64 x) : Sp w0 w' (ps.set i (Pool ((v, xs) :: K))) := by
  obtain ⟨Fi, ⟨hp1, hp2⟩, hF, hall⟩ := h.upd hi
  obtain ⟨G, hr, hG, _⟩ := Ty.row_of_owns ho rfl (by decide) (Ty.all_int hI)
  have hG2 : ∀ b ∈ G, w.heap.size ≤ b := by
    rcases hG with rfl | ⟨g, h1, _, _, rfl⟩
    · simp
    · intro b hb
      obtain rfl : b = g := by simpa using hb
      exact h1
  refine hall w' _ (G ++ Fi) (.of_below hb) ⟨fun b hm => ?_, fun r hr2 => ?_⟩ fun b hm => ?_
  · rcases List.mem_append.1 hm with hm | hm
    · exact Ty.row_lt hr b hm
    · exact Nat.lt_of_lt_of_le (hp1 b hm) hb.size
  · rcases List.mem_cons.1 hr2 with rfl | hr2
    · exact ⟨G, Ty.row_down hr, fun b hb => List.mem_append.2 (.inl hb)⟩
    · obtain ⟨H, h1, h2⟩ := hp2 r hr2
      exact ⟨H, Ty.row_keep h1 fun b hm => hb.block b (hp1 b (h2 b hm)), fun b hm => List.mem_append.2 (.inr (h2 b hm))⟩
  · rcases List.mem_append.1 hm with hm | hm
    · exact .inr (hG2 b hm)
    · exact .inl hm
theorem all_pool (hp : ∀ q ∈ K, ∃ G, Ty.int.row false w q.1 q.2 G) : ∀ {ks : List (Value × List Int)}, (∀ q ∈ ks, q ∈ K) → ∃ G, (Ty.slice Ty.int).all false w (ks.map Prod.fst) (ks.map Prod.snd) G
  | [], _ => ⟨[], rfl, rfl⟩
  | r :: ks, h => by
    obtain ⟨G, hG⟩ := hp r (h r List.mem_cons_self)
    obtain ⟨H, hH⟩ := all_pool hp fun q hq => h q (List.mem_cons_of_mem _ hq)
    exact ⟨G ++ H, [r.1], ks.map Prod.fst, G, H, rfl, rfl, ⟨r.1, rfl, hG⟩, hH⟩
/-- The cells of an own row of one-cell elements. -/
theorem own_view {B : Nat} {e : TypeId} {n : Nat} {cs : List Value} (h : w.ownsRow B e 1 v n cs) : cs.length = n ∧ ((v = .slice none 0 0 ∧ n = 0 ∧ cs = []) ∨ ∃ g c, v = .slice (some ⟨g, 0, none⟩) n c ∧ n ≤ c ∧ c ≤ 9223372036854775807 ∧ ∀ j u, cs[j]? = some u → w.cell? ⟨g, j, none⟩ = some u) := by
  obtain ⟨hl, ⟨rfl, rfl⟩ | ⟨g, cap, cur, rfl, hg, hh, hn, hm, hcs, ht⟩⟩ := h
  · rw [Nat.zero_mul] at hl
    exact ⟨hl, .inl ⟨rfl, rfl, List.length_eq_zero_iff.1 hl⟩⟩
  · rw [Nat.mul_one] at hl
    refine ⟨hl, .inr ⟨g, cap, rfl, hn, by unfold maxLen at hm; omega, fun j u hj => ?_⟩⟩
    have hlt := (List.getElem?_eq_some_iff.1 hj).1
    rw [hown_cell hh ht (by omega)]; exact hj
theorem own_row_f {α : Type} {T : Ty α} {B : Nat} {e : TypeId} {xs : List α} {cs : List Value} {G : List Nat} (h : w.ownsRow B e 1 v xs.length cs) (hT : T.size = 1) (hall : T.all false w cs xs G) : ∃ F, T.row false w v xs F := by
  obtain ⟨hl, h1 | ⟨g, c, rfl, h1, h2, h3⟩⟩ := own_view h
  · obtain ⟨rfl, h0, _⟩ := h1
    obtain rfl : xs = [] := List.length_eq_zero_iff.1 h0
    exact ⟨[], Ty.row_nil _ _ _ _ _ (by decide)⟩
  · by_cases hx : xs = []
    · subst hx
      exact ⟨[], Ty.row_nil _ _ _ _ _ h2⟩
    · exact ⟨g :: G, _, c, cs, G, rfl, h1, h2, hall, .inr ⟨by omega, hx, g, 0, rfl, rfl, fun j hj => ⟨by rw [Nat.zero_add]; exact h3 j _ (List.getElem?_eq_getElem hj), fun e => by cases e⟩⟩⟩
theorem Sp.cls_row (h : Sp w0 w ps) (hi : ps[i]? = some (Cls v ks)) (hj : ps[j]? = some (Pool K)) (hk : ∀ q ∈ ks, q ∈ K) : ∃ F, (Ty.slice Ty.int).row false w v (ks.map Prod.snd) F := by
  obtain ⟨G, hG⟩ := all_pool (fun q hq => h.pool_at hj hq) hk
  have := h.own hi
  have e : (ks.map Prod.snd).length = ks.length := List.length_map _
  refine own_row_f (T := Ty.slice Ty.int) (B := 0) (e := 25) ?_ rfl hG
  rw [e]; exact this
theorem Sp.ints_row {ys : List Int} (h : Sp w0 w ps) (hi : ps[i]? = some (Ints v ys)) (hI : ∀ y ∈ ys, I64 y) : ∃ F, Ty.int.row false w v ys F := own_row_f (h.own hi) rfl (Ty.all_int hI)
theorem own_src {B : Nat} {e : TypeId} {n : Nat} {cs : List Value} (h : w.ownsRow B e 1 v n cs) : ∃ A c, v = .slice A n c ∧ n ≤ c ∧ Src w A n 1 cs ∧ (∀ k, k ≤ n → Src w (cutA A c k 1) (n - k) 1 (cs.drop k)) := by
  obtain ⟨hl, ⟨rfl, rfl, rfl⟩ | ⟨g, c, rfl, h1, h2, h3⟩⟩ := own_view h
  · exact ⟨none, 0, rfl, Nat.le_refl _, .inl ⟨rfl, rfl⟩, fun k hk => by obtain rfl : k = 0 := by omega
                                                                        exact .inl ⟨rfl, rfl⟩⟩
  · have hs : Src w (some ⟨g, 0, none⟩) n 1 cs := .inr ⟨_, rfl, by omega, fun j u hj => by rw [add_none, Nat.zero_add]; exact h3 j u hj⟩
    refine ⟨_, c, rfl, h1, hs, fun k hk => ?_⟩
    have := hs.from (cap := c) hk h1
    rwa [Nat.mul_one] at this
end

/-- A clause put to its place, with the values. -/
def insP (ks : List (Value × List Int)) (q : Value × List Int) : List (Value × List Int) := ks.take (placeB (ks.map Prod.snd) q.2) ++ q :: ks.drop (placeB (ks.map Prod.snd) q.2)
theorem insP_snd (ks : List (Value × List Int)) (q : Value × List Int) : (insP ks q).map Prod.snd = insB (ks.map Prod.snd) q.2 := by unfold insP insB; simp
theorem insP_len (ks : List (Value × List Int)) (q : Value × List Int) : (insP ks q).length = ks.length + 1 := by
  have := congrArg List.length (insP_snd ks q)
  rw [List.length_map, insB_len, List.length_map] at this; exact this
theorem insP_fst (ks : List (Value × List Int)) (q : Value × List Int) : (insP ks q).map Prod.fst = (ks.map Prod.fst).take (placeB (ks.map Prod.snd) q.2) ++ q.1 :: (ks.map Prod.fst).drop (placeB (ks.map Prod.snd) q.2) := by unfold insP; simp
theorem mem_insP {ks : List (Value × List Int)} {q r : Value × List Int} : r ∈ insP ks q ↔ r = q ∨ r ∈ ks := by
  unfold insP
  rw [List.mem_append, List.mem_cons]
  conv => rhs; rw [← List.take_append_drop (placeB (ks.map Prod.snd) q.2) ks, List.mem_append]
  exact ⟨fun h => by rcases h with h | h | h <;> simp [h], fun h => by rcases h with h | h | h <;> simp [h]⟩
end Go.Proofs.Ytebpknekaljgnaa
