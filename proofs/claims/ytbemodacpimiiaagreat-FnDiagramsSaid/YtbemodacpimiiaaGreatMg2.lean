/- Lemmas and contracts for a law, put together out of several texts: SepA HTail HTailB DgB DgC SepB DgD OwnB. -/
import Derived.Test.YtbemodacpimiiaaGreatMg1
import Derived.Maps.AppendAt
import Derived.Deep.RegionHeld
import Derived.StillTail
import Derived.BigQuiet
import Derived.Lib.QuietBelow
import Derived.Lib.Hide
import Derived.Lib.RabinKarpLaws
import Derived.Laws.StructEq
/- Memory in parts that do not meet: what a call has made. No program in sight. -/
namespace Go.Proofs.YtbemodacpimiiaaGreat
open Go.RowKit

/-- A part of the memory, with the blocks that it reaches. -/
structure Asn where
  p : World → List Nat → Prop
  lt : ∀ {w F}, p w F → ∀ b ∈ F, b < w.heap.size
  keep : ∀ {w w' F}, p w F → (∀ b ∈ F, w'.heap[b]? = w.heap[b]?) → p w' F

/-- All the parts, no two of which meet. -/
def sep : List Asn → World → List Nat → Prop
  | [], _, F => F = []
  | q :: ps, w, F => ∃ F1 F2, F = F1 ++ F2 ∧ (∀ b ∈ F1, b ∉ F2) ∧ q.p w F1 ∧ sep ps w F2

theorem sep_lt {w : World} : ∀ {ps : List Asn} {F : List Nat}, sep ps w F → ∀ b ∈ F, b < w.heap.size
  | [], _, h => by subst h; simp
  | q :: ps, _, h => by
    obtain ⟨F1, F2, rfl, _, h1, h2⟩ := h
    intro b hb
    rcases List.mem_append.1 hb with hb | hb
    · exact q.lt h1 b hb
    · exact sep_lt h2 b hb
theorem sep_keep {w w' : World} : ∀ {ps : List Asn} {F : List Nat}, sep ps w F → (∀ b ∈ F, w'.heap[b]? = w.heap[b]?) → sep ps w' F
  | [], _, h, _ => h
  | q :: ps, _, h, hk => by
    obtain ⟨F1, F2, rfl, hd, h1, h2⟩ := h
    exact ⟨F1, F2, rfl, hd, q.keep h1 fun b hb => hk b (List.mem_append.2 (.inl hb)), sep_keep h2 fun b hb => hk b (List.mem_append.2 (.inr hb))⟩
theorem sep_upd {w : World} : ∀ {ps : List Asn} {F : List Nat} {i : Nat} {q : Asn}, sep ps w F → ps[i]? = some q →
    ∃ Fi, q.p w Fi ∧ (∀ b ∈ Fi, b ∈ F) ∧ ∀ w' q' Fi', Chg Fi w w' → q'.p w' Fi' → (∀ b ∈ Fi', b ∈ Fi ∨ w.heap.size ≤ b) → ∃ F', sep (ps.set i q') w' F' ∧ ∀ b ∈ F', b ∈ F ∨ w.heap.size ≤ b
  | [], _, _, _, _, h => by simp at h
  | q :: ps, _, 0, q0, h, hi => by
    obtain ⟨F1, F2, rfl, hd, h1, h2⟩ := h
    simp at hi; subst hi
    refine ⟨F1, h1, fun b hb => List.mem_append.2 (.inl hb), fun w' q' Fi' hc hq hF => ⟨Fi' ++ F2, ⟨Fi', F2, rfl, fun b hb hb2 => ?_, hq, sep_keep h2 fun b hb => hc.block b (sep_lt h2 b hb) fun hb1 => hd b hb1 hb⟩, fun b hb => ?_⟩⟩
    · rcases hF b hb with h | h
      · exact hd b h hb2
      · have := sep_lt h2 b hb2; omega
    · rcases List.mem_append.1 hb with hb | hb
      · exact (hF b hb).imp (fun h => List.mem_append.2 (.inl h)) id
      · exact .inl (List.mem_append.2 (.inr hb))
  | q :: ps, _, i + 1, q0, h, hi => by
    obtain ⟨F1, F2, rfl, hd, h1, h2⟩ := h
    obtain ⟨Fi, hp, hsub, hall⟩ := sep_upd (i := i) (q := q0) h2 (by simpa using hi)
    refine ⟨Fi, hp, fun b hb => List.mem_append.2 (.inr (hsub b hb)), fun w' q' Fi' hc hq hF => ?_⟩
    obtain ⟨F', hs, hF'⟩ := hall w' q' Fi' hc hq hF
    refine ⟨F1 ++ F', ⟨F1, F', rfl, fun b hb hb2 => ?_, q.keep h1 fun b hb => hc.block b (q.lt h1 b hb) fun hbi => hd b hb (hsub b hbi), hs⟩, fun b hb => ?_⟩
    · rcases hF' b hb2 with h | h
      · exact hd b hb h
      · have := q.lt h1 b hb; omega
    · rcases List.mem_append.1 hb with hb | hb
      · exact .inl (List.mem_append.2 (.inl hb))
      · exact (hF' b hb).imp (fun h => List.mem_append.2 (.inr h)) id

/-- Since w0 nothing old has turned; of what is new these are the parts. -/
def Sp (w0 w : World) (ps : List Asn) : Prop := Below w0.heap.size w0 w ∧ ∃ F, sep ps w F ∧ ∀ b ∈ F, w0.heap.size ≤ b

section
variable {w0 w w' : World} {ps : List Asn} {i : Nat} {q : Asn}
theorem Sp.start (w : World) : Sp w w [] := ⟨bb _, [], rfl, by simp⟩
theorem Sp.of_below (h : Below w0.heap.size w0 w) : Sp w0 w [] := ⟨h, [], rfl, by simp⟩
theorem Sp.below (h : Sp w0 w ps) : Below w0.heap.size w0 w := h.1
theorem Sp.grow (h : Sp w0 w ps) (hb : Below w.heap.size w w') : Sp w0 w' ps := by
  obtain ⟨h1, F, h2, h3⟩ := h
  exact ⟨btr h1 hb, F, sep_keep h2 fun b hm => hb.block b (sep_lt h2 b hm), h3⟩
theorem Sp.drew (h : Sp w0 w ps) : Sp w0 w.drew ps := h.grow (bdr (bb _))
theorem Sp.alloc (h : Sp w0 w ps) (o : Obj) : Sp w0 (w.alloc o) ps := h.grow (bal (bb _) o)
theorem Sp.upd (h : Sp w0 w ps) (hi : ps[i]? = some q) : ∃ Fi, q.p w Fi ∧ (∀ b ∈ Fi, w0.heap.size ≤ b) ∧
    ∀ w' q' Fi', Chg Fi w w' → q'.p w' Fi' → (∀ b ∈ Fi', b ∈ Fi ∨ w.heap.size ≤ b) → Sp w0 w' (ps.set i q') := by
  obtain ⟨h1, F, h2, h3⟩ := h
  obtain ⟨Fi, hp, hsub, hall⟩ := sep_upd h2 hi
  refine ⟨Fi, hp, fun b hb => h3 b (hsub b hb), fun w' q' Fi' hc hq hF => ?_⟩
  obtain ⟨F', hs, hF'⟩ := hall w' q' Fi' hc hq hF
  exact ⟨h1.trans (hc.below h1.size fun b hb => h3 b (hsub b hb)), F', hs, fun b hb => (hF' b hb).elim (h3 b) (Nat.le_trans h1.size)⟩
theorem Sp.get (h : Sp w0 w ps) (hi : ps[i]? = some q) : ∃ Fi, q.p w Fi ∧ (∀ b ∈ Fi, w0.heap.size ≤ b) := by
  obtain ⟨Fi, h1, h2, _⟩ := h.upd hi
  exact ⟨Fi, h1, h2⟩
theorem Sp.new {F : List Nat} (h : Sp w0 w ps) (hb : Below w.heap.size w w') (hq : q.p w' F) (hF : ∀ b ∈ F, w.heap.size ≤ b) : Sp w0 w' (q :: ps) := by
  obtain ⟨h1, G, h2, h3⟩ := h
  have h4 := sep_keep h2 fun b hm => hb.block b (sep_lt h2 b hm)
  refine ⟨btr h1 hb, F ++ G, ⟨F, G, rfl, fun b hb1 hb2 => ?_, hq, h4⟩, fun b hm => ?_⟩
  · have := hF b hb1; have := sep_lt h2 b hb2; omega
  · rcases List.mem_append.1 hm with hm | hm
    · exact Nat.le_trans h1.size (hF b hm)
    · exact h3 b hm
theorem Sp.tail (h : Sp w0 w (q :: ps)) : Sp w0 w ps := by
  obtain ⟨h1, F, ⟨F1, F2, rfl, _, _, h2⟩, h3⟩ := h
  exact ⟨h1, F2, h2, fun b hb => h3 b (List.mem_append.2 (.inr hb))⟩
theorem Sp.head (h : Sp w0 w (q :: ps)) : ∃ F, q.p w F ∧ ∀ b ∈ F, w0.heap.size ≤ b := by
  obtain ⟨h1, F, ⟨F1, F2, rfl, _, h2, _⟩, h3⟩ := h
  exact ⟨F1, h2, fun b hb => h3 b (List.mem_append.2 (.inl hb))⟩
theorem Sp.swap {q' : Asn} (h : Sp w0 w (q :: q' :: ps)) : Sp w0 w (q' :: q :: ps) := by
  obtain ⟨h1, F, ⟨F1, F2, rfl, hd, h2, F3, F4, rfl, hd', h4, h5⟩, h3⟩ := h
  refine ⟨h1, F3 ++ (F1 ++ F4), ⟨F3, F1 ++ F4, rfl, fun b hb hb2 => ?_, h4, F1, F4, rfl, fun b hb hb2 => hd b hb (List.mem_append.2 (.inr hb2)), h2, h5⟩, fun b hb => h3 b ?_⟩
  · rcases List.mem_append.1 hb2 with h | h
    · exact hd b h (List.mem_append.2 (.inl hb))
    · exact hd' b hb h
  · simp only [List.mem_append] at hb ⊢
    rcases hb with h | h | h
    · exact .inr (.inl h)
    · exact .inl h
    · exact .inr (.inr h)
end

/-- A block that is known whole. -/
def Box (b : Nat) (t : TypeId) (cs : Array Value) : Asn where
  p w F := F = [b] ∧ w.heap[b]? = some (.cells cs t (0, 0))
  lt := by
    rintro w F ⟨rfl, h⟩ b' hb
    obtain rfl : b' = b := by simpa using hb
    rcases Nat.lt_or_ge b' w.heap.size with h' | h'
    · exact h'
    · rw [Array.getElem?_eq_none h'] at h; cases h
  keep := by
    rintro w w' F ⟨rfl, h⟩ hk
    exact ⟨rfl, (hk b (by simp)).trans h⟩

section
variable {w0 w w' : World} {ps : List Asn} {i b o : Nat} {t : TypeId} {cs : Array Value}
theorem Sp.box (h : Sp w0 w ps) (hi : ps[i]? = some (Box b t cs)) : w0.heap.size ≤ b ∧ b < w.heap.size ∧ w.heap[b]? = some (.cells cs t (0, 0)) := by
  obtain ⟨F, hp, hF⟩ := h.get hi
  have hlt := (Box b t cs).lt hp b
  obtain ⟨rfl, hh⟩ := hp
  exact ⟨hF b (by simp), hlt (by simp), hh⟩
theorem Sp.cell (h : Sp w0 w ps) (hi : ps[i]? = some (Box b t cs)) {u : Value} (ho : cs[o]? = some u) : w.cell? ⟨b, o, none⟩ = some u := by
  simp [World.cell?, (h.box hi).2.2, ho]
theorem Sp.frozen (h : Sp w0 w ps) (hi : ps[i]? = some (Box b t cs)) (o : Nat) : w.frozen? ⟨b, o, none⟩ = false := by
  simp [World.frozen?, (h.box hi).2.2]
theorem Sp.store (h : Sp w0 w ps) (hi : ps[i]? = some (Box b t cs)) (o : Nat) (u : Value) : Sp w0 (w.setCell ⟨b, o, none⟩ u) (ps.set i (Box b t (cs.setIfInBounds o u))) := by
  obtain ⟨F, ⟨rfl, hh⟩, hF, hall⟩ := h.upd hi
  refine hall _ _ [b] ((Chg.refl _ _).set (by simp) _) ⟨rfl, ?_⟩ (fun b hb => .inl hb)
  simp [World.setCell, Array.getElem?_modify, hh]
theorem Sp.alloc_box (h : Sp w0 w ps) (cs : Array Value) (t : TypeId) : Sp w0 (w.alloc (.cells cs t)) (Box w.heap.size t cs :: ps) :=
  h.new (bal (bb _) _) (F := [w.heap.size]) ⟨rfl, heap_alloc_new w _⟩ (by simp)
end

theorem owns_keep {w w' : World} {B : Nat} {e : TypeId} {size : Nat} {v : Value} {n : Nat} {xs : List Value} (h : w.ownsRow B e size v n xs) (hk : ∀ g, v.ownBlock = some g → w'.heap[g]? = w.heap[g]?) : w'.ownsRow B e size v n xs := by
  obtain ⟨hl, h | ⟨g, cap, cur, rfl, hg, hh, r⟩⟩ := h
  · exact ⟨hl, .inl h⟩
  · exact ⟨hl, .inr ⟨g, cap, cur, rfl, hg, (hk g rfl).trans hh, r⟩⟩
theorem owns_lt {w : World} {B : Nat} {e : TypeId} {size : Nat} {v : Value} {n : Nat} {xs : List Value} (h : w.ownsRow B e size v n xs) {g : Nat} (hg : v.ownBlock = some g) : g < w.heap.size := by
  obtain ⟨hl, ⟨rfl, _⟩ | ⟨g', cap, cur, rfl, _, hh, r⟩⟩ := h
  · cases hg
  · obtain rfl : g' = g := by simpa [Value.ownBlock] using hg
    rcases Nat.lt_or_ge g' w.heap.size with h' | h'
    · exact h'
    · rw [Array.getElem?_eq_none h'] at hh; cases hh

/-- A row of the call's own. -/
def Own (e : TypeId) (size : Nat) (v : Value) (n : Nat) (xs : List Value) : Asn where
  p w F := F = v.ownBlock.toList ∧ w.ownsRow 0 e size v n xs
  lt := by
    rintro w F ⟨rfl, h⟩ b hb
    exact owns_lt h (by simpa using hb)
  keep := by
    rintro w w' F ⟨rfl, h⟩ hk
    exact ⟨rfl, owns_keep h fun g hg => hk g (by simp [hg])⟩

section
variable {w0 w w1 w' : World} {ps : List Asn} {i n n' size : Nat} {e : TypeId} {v v' : Value} {xs xs' : List Value}
theorem Sp.own (h : Sp w0 w ps) (hi : ps[i]? = some (Own e size v n xs)) : w.ownsRow 0 e size v n xs := by
  obtain ⟨F, hp, _⟩ := h.get hi
  exact hp.2
/-- Behind an append to an own row. -/
theorem Sp.own_push (h : Sp w0 w ps) (hi : ps[i]? = some (Own e size v n xs)) (hb : Below w.heap.size w w1) (ho : w'.ownsRow 0 e size v' n' xs') (hg : w1.grownBy w' v.ownBlock)
    (hat : v'.ownBlock = v.ownBlock ∨ v'.ownBlock = some w1.heap.size) : Sp w0 w' (ps.set i (Own e size v' n' xs')) := by
  obtain ⟨F, ⟨rfl, hh⟩, hF, hall⟩ := h.upd hi
  refine hall w' _ v'.ownBlock.toList ?_ ⟨rfl, ho⟩ fun b hm => ?_
  · exact ⟨hg.os.trans hb.os, hg.tape.trans hb.tape, hg.output.trans hb.output, Nat.le_trans hb.size hg.size, fun k hk hn =>
      (hg.block k (Nat.lt_of_lt_of_le hk hb.size) (fun e => hn (by simp [← e]))).trans (hb.block k hk)⟩
  · rcases hat with h1 | h1
    · exact .inl (by rw [h1] at hm; exact hm)
    · rw [h1] at hm
      obtain rfl : b = w1.heap.size := by simpa using hm
      exact .inr hb.size
/-- A new own row. -/
theorem Sp.own_new (h : Sp w0 w ps) (hb : Below w.heap.size w w') (ho : w'.ownsRow 0 e size v n xs) (hv : ∀ g, v.ownBlock = some g → w.heap.size ≤ g) : Sp w0 w' (Own e size v n xs :: ps) :=
  h.new hb (F := v.ownBlock.toList) ⟨rfl, ho⟩ fun b hm => hv b (by simpa using hm)
theorem Sp.own_nil (h : Sp w0 w ps) (e : TypeId) (size : Nat) : Sp w0 w (Own e size (.slice none 0 0) 0 [] :: ps) :=
  h.own_new (bb _) (World.ownsRow_nil _ _ _ _) (fun g hg => by cases hg)
theorem Sp.own_made (h : Sp w0 w ps) (e : TypeId) (size : Nat) : Sp w0 (w.alloc (.cells #[] e)) (Own e size (.slice (some ⟨w.heap.size, 0, none⟩) 0 0) 0 [] :: ps) :=
  h.own_new (bal (bb _) _) ⟨by simp, .inr ⟨w.heap.size, 0, #[], rfl, Nat.zero_le _, heap_alloc_new w _, Nat.le_refl _, by decide, by simp, by simp⟩⟩ (fun g hg => by
    have : w.heap.size = g := by simpa [Value.ownBlock] using hg
    omega)
end

/-- A row with all that it reaches, all of it the call's own. -/
def Row {α : Type} (T : Ty α) (v : Value) (xs : List α) : Asn where
  p w F := T.row true w v xs F ∧ F.Nodup
  lt h := Ty.row_lt h.1
  keep h hk := ⟨Ty.row_keep h.1 hk, h.2⟩

/-- An own row of own rows, as far as it has grown. -/
def Rows {α : Type} (T : Ty α) (e : TypeId) (v : Value) (cs : List Value) (xss : List (List α)) : Asn where
  p w F := ∃ G, F = v.ownBlock.toList ++ G ∧ F.Nodup ∧ (Ty.slice T).all true w cs xss G ∧ w.ownsRow 0 e 1 v xss.length cs
  lt := by
    rintro w F ⟨G, rfl, _, h1, h2⟩ b hb
    rcases List.mem_append.1 hb with hb | hb
    · exact owns_lt h2 (by simpa using hb)
    · exact Ty.all_lt h1 b hb
  keep := by
    rintro w w' F ⟨G, rfl, h0, h1, h2⟩ hk
    exact ⟨G, rfl, h0, Ty.all_keep h1 fun b hb => hk b (List.mem_append.2 (.inr hb)), owns_keep h2 fun g hg => hk g (by simp [hg])⟩

section
variable {α : Type} {T : Ty α} {w0 w w1 w' : World} {ps : List Asn} {i : Nat} {e : TypeId} {v v' u : Value} {cs : List Value} {xss : List (List α)} {ys : List α}
theorem Sp.row_new {xs : List α} {F : List Nat} (h : Sp w0 w ps) (hb : Below w.heap.size w w') (hr : T.row true w' v xs F) (hn : F.Nodup) (hF : ∀ b ∈ F, w.heap.size ≤ b) : Sp w0 w' (Row T v xs :: ps) := h.new hb ⟨hr, hn⟩ hF
theorem Sp.rows (h : Sp w0 w ps) (hi : ps[i]? = some (Rows T e v cs xss)) : w.ownsRow 0 e 1 v xss.length cs := by
  obtain ⟨F, ⟨G, _, _, _, h⟩, _⟩ := h.get hi
  exact h
theorem Sp.rows_nil (h : Sp w0 w ps) (T : Ty α) (e : TypeId) : Sp w0 w (Rows T e (.slice none 0 0) [] [] :: ps) :=
  h.new (F := []) (bb _) ⟨[], rfl, by simp, ⟨rfl, rfl⟩, World.ownsRow_nil _ _ _ _⟩ (by simp)
theorem Sp.rows_made (h : Sp w0 w ps) (T : Ty α) (e : TypeId) : Sp w0 (w.alloc (.cells #[] e)) (Rows T e (.slice (some ⟨w.heap.size, 0, none⟩) 0 0) [] [] :: ps) :=
  h.new (F := [w.heap.size]) (bal (bb _) _) ⟨[], rfl, by simp, ⟨rfl, rfl⟩, ⟨by simp, .inr ⟨w.heap.size, 0, #[], rfl, Nat.zero_le _, heap_alloc_new w _, Nat.le_refl _, by decide, by simp, by simp⟩⟩⟩ (by simp)
/-- A row goes into a row of rows. -/
theorem Sp.rows_push (h : Sp w0 w (Row T u ys :: Rows T e v cs xss :: ps)) (hb : Below w.heap.size w w1) (ho : w'.ownsRow 0 e 1 v' (xss.length + 1) (cs ++ [u])) (hg : w1.grownBy w' v.ownBlock)
    (hat : v'.ownBlock = v.ownBlock ∨ v'.ownBlock = some w1.heap.size) : Sp w0 w' (Rows T e v' (cs ++ [u]) (xss ++ [ys]) :: ps) := by
  obtain ⟨h1, F, ⟨F1, F2, rfl, hd, ⟨hr, hn⟩, ⟨F3, F4, rfl, hd', ⟨G, rfl, hn', hall, hown⟩, h5⟩⟩, h3⟩ := h
  have hr1 := Ty.row_keep hr fun b hm => hb.block b (Ty.row_lt hr b hm)
  have hall1 := Ty.all_keep hall fun b hm => hb.block b (Ty.all_lt hall b hm)
  have h51 := sep_keep h5 fun b hm => hb.block b (sep_lt h5 b hm)
  have hkeep : ∀ b, b < w.heap.size → (∀ g, v.ownBlock = some g → b ≠ g) → w'.heap[b]? = w1.heap[b]? := fun b hlt hne => hg.block b (Nat.lt_of_lt_of_le hlt hb.size) (fun e => hne b e.symm rfl)
  have hr2 := Ty.row_keep hr1 fun b hm => hkeep b (Ty.row_lt hr b hm) fun g hg' e => hd b hm (by simp [hg', e])
  have hnG : ∀ b ∈ G, ∀ g, v.ownBlock = some g → b ≠ g := fun b hm g hg' e => by
    rw [List.nodup_append] at hn'
    exact hn'.2.2 g (by simp [hg']) b hm e.symm
  have hall2 := Ty.all_keep hall1 fun b hm => hkeep b (Ty.all_lt hall b hm) (hnG b hm)
  have h52 := sep_keep h51 fun b hm => hkeep b (sep_lt h5 b hm) fun g hg' e => hd' b (by simp [hg', e]) hm
  have hlv : ∀ b ∈ v'.ownBlock.toList, b ∈ v.ownBlock.toList ∨ b = w1.heap.size := fun b hm => by
    rcases hat with h | h
    · left; rwa [h] at hm
    · right; rw [h] at hm; simpa using hm
  have hs := hb.size
  have hbel : Below w0.heap.size w0 w' := (btr h1 hb).trans ⟨hg.os, hg.tape, hg.output, hg.size, fun k hk => hg.block k (by have := h1.size; omega) (fun e => by have := h3 k (by simp [← e]); omega)⟩
  refine ⟨hbel, (v'.ownBlock.toList ++ (G ++ F1)) ++ F4, ⟨_, F4, rfl, ?_, ⟨G ++ F1, rfl, ?_, ?_, by simpa using ho⟩, h52⟩, ?_⟩
  · intro b hm hm4
    rcases List.mem_append.1 hm with hm | hm
    · rcases hlv b hm with h | h
      · exact hd' b (List.mem_append.2 (.inl h)) hm4
      · have := sep_lt h5 b hm4; omega
    · rcases List.mem_append.1 hm with hm | hm
      · exact hd' b (List.mem_append.2 (.inr hm)) hm4
      · exact hd b hm (List.mem_append.2 (.inr hm4))
  · refine List.nodup_append.2 ⟨by cases v'.ownBlock <;> simp, List.nodup_append.2 ⟨(List.nodup_append.1 hn').2.1, hn, fun x hx y hy e => hd y hy (by simp [← e, hx])⟩, fun x hx y hy e => ?_⟩
    subst e
    rcases hlv x hx with h | h
    · rcases List.mem_append.1 hy with hy | hy
      · exact (List.nodup_append.1 hn').2.2 x h x hy rfl
      · exact hd x hy (List.mem_append.2 (.inl (List.mem_append.2 (.inl h))))
    · rcases List.mem_append.1 hy with hy | hy
      · have := Ty.all_lt hall x hy; omega
      · have := Ty.row_lt hr x hy; omega
  · exact Ty.all_snoc hall2 ⟨u, rfl, hr2⟩
  · intro b hm
    rcases List.mem_append.1 hm with hm | hm
    · rcases List.mem_append.1 hm with hm | hm
      · rcases hlv b hm with h | h
        · exact h3 b (by simp at h ⊢; simp [h])
        · have := h1.size; omega
      · rcases List.mem_append.1 hm with hm | hm
        · exact h3 b (by simp [hm])
        · exact h3 b (by simp [hm])
    · exact h3 b (by simp [hm])
/-- The finished row of rows. -/
theorem Sp.rows_done (h : Sp w0 w ps) (hi : ps[i]? = some (Rows T e v cs xss)) : ∃ F, (Ty.slice T).row true w v xss F ∧ F.Nodup ∧ (∀ b ∈ F, w0.heap.size ≤ b) := by
  obtain ⟨F, ⟨G, rfl, hn, hall, hown⟩, hF⟩ := h.get hi
  obtain ⟨F', hr, hF', _⟩ := Ty.row_of_owns hown rfl (by decide) hall
  rcases hF' with rfl | ⟨g, _, _, ho, rfl⟩
  · exact ⟨[], hr, by simp, by simp⟩
  · refine ⟨g :: G, hr, ?_, ?_⟩
    · rw [ho] at hn; simpa using hn
    · rw [ho] at hF; simpa using hF
end

/-- append to an own row, as one step of a region that draws: with the place of the new row. -/
theorem step_append_at {P : Program} {ops : Array Oper} {o : Oper} {a : Act} {w : World} {K : Act → World → Prop} {Q : Exit → Act → World → Prop} {E : Prop} (hgd : o.guard = none) (s x : Operand) (t : TypeId)
    (ho : o.op = .call { callee := .builtin .append, args := #[s, x], argTypes := #[t, t] })
    (e : TypeId) (i : TypeInfo) (z : Value) (size bytes : Nat) (ht : P.underlying t = some (.slice e)) (hi : P.info? e = some i) (hz : i.zero = some z)
    (hsize : i.size = size) (hby : i.bytes = bytes) (hzs : z.cells.size = size) (hsz : 0 < size)
    (v : Value) (n : Nat) (xs : List Value) (hs : a.eval s = v) (hown : w.ownsRow 0 e size v n xs)
    (ad : Addr) (m c : Nat) (news : List Value) (hx : a.eval x = .slice (some ad) m c) (hl : news.length = m * size) (hnews : ∀ j u, news[j]? = some u → w.cell? (ad.add j) = some u) (h1 : ∀ u ∈ news, u.oneCell' = true)
    (h63 : n + m ≤ maxLen) (hbytes : (n + m) * bytes ≤ 140737488355328)
    (h : ∀ v' w', w'.ownsRow 0 e size v' (n + m) (xs ++ news) → w.grownBy w' v.ownBlock → (v'.ownBlock = v.ownBlock ∨ v'.ownBlock = some w.heap.size) → K (a.put o.dst v') w') :
    if Region.wanted o (yielded ops a.tmps) = true then Oper.wp P o a w K Q else E := by
  have hw : Region.wanted o (yielded ops a.tmps) = true := by simp [Region.wanted, hgd]
  rw [if_pos hw]
  obtain ⟨v', w', hr, h2, h3, _, h5⟩ := run_append_own_at (P := P) w 0 t o.type e i z size bytes ht hi hz hsize hby hzs hsz v n xs hown ad m c news hl hnews h1 h63 hbytes (Nat.zero_le _)
  unfold Oper.wp execOp
  simp only [ho, resolve, invoke, builtin, Sem.run_bind, Sem.run_pure, Result.andThen_ok, List.map_toArray, List.map_cons, List.map_nil, hs, hx, hr]
  exact h v' w' h2 h3 h5
theorem wpList_append_at {P : Program} {ops : Array Oper} {rest : List Oper} {o : Oper} {a : Act} {w : World} {Q : Exit → Act → World → Prop} (hgd : o.guard = none) (s x : Operand) (t : TypeId)
    (ho : o.op = .call { callee := .builtin .append, args := #[s, x], argTypes := #[t, t] })
    (e : TypeId) (i : TypeInfo) (z : Value) (size bytes : Nat) (ht : P.underlying t = some (.slice e)) (hi : P.info? e = some i) (hz : i.zero = some z)
    (hsize : i.size = size) (hby : i.bytes = bytes) (hzs : z.cells.size = size) (hsz : 0 < size)
    (v : Value) (n : Nat) (xs : List Value) (hs : a.eval s = v) (hown : w.ownsRow 0 e size v n xs)
    (ad : Addr) (m c : Nat) (news : List Value) (hx : a.eval x = .slice (some ad) m c) (hl : news.length = m * size) (hnews : ∀ j u, news[j]? = some u → w.cell? (ad.add j) = some u) (h1 : ∀ u ∈ news, u.oneCell' = true)
    (h63 : n + m ≤ maxLen) (hbytes : (n + m) * bytes ≤ 140737488355328)
    (h : ∀ v' w', w'.ownsRow 0 e size v' (n + m) (xs ++ news) → w.grownBy w' v.ownBlock → (v'.ownBlock = v.ownBlock ∨ v'.ownBlock = some w.heap.size) → wpList P ops Q rest (a.put o.dst v') w') :
    wpList P ops Q (o :: rest) a w :=
  wpList_append_own_at w hgd s x t ho 0 e i z size bytes ht hi hz hsize hby hzs hsz v n xs hs hown ad m c news hx hl hnews h1 h63 hbytes (Nat.zero_le _) fun v' w' h1 h2 _ h3 => h v' w' h1 h2 h3
theorem cell_alloc {w : World} {a : Addr} {u : Value} (h : w.cell? a = some u) (o : Obj) : (w.alloc o).cell? a = some u :=
  (World.cell?_alloc_lt _ _ _ (World.block_lt_of_cell? _ _ h)).trans h
theorem owns_form {w : World} {B : Nat} {e : TypeId} {size : Nat} {v : Value} {n : Nat} {xs : List Value} (h : w.ownsRow B e size v n xs) : ∃ a c, v = .slice a n c := by
  obtain ⟨_, ⟨rfl, rfl⟩ | ⟨g, cap, cur, rfl, _⟩⟩ := h
  · exact ⟨_, _, rfl⟩
  · exact ⟨_, _, rfl⟩
/-- One element that has just been laid in a block of its own. -/
theorem one_new {w : World} {x : Value} {t : TypeId} {b : Nat} (hb : b = w.heap.size) : ∀ j u, [x][j]? = some u → (w.alloc (.cells #[x] t)).cell? ((⟨b, 0, none⟩ : Addr).add j) = some u := by
  subst hb; exact cell_one_new w x t

section
variable {α : Type} {T : Ty α} {w0 w w' : World} {ps : List Asn} {i : Nat} {v : Value} {xs : List α}
theorem Sp.row_at (h : Sp w0 w ps) (hi : ps[i]? = some (Row T v xs)) : ∃ F, T.row false w v xs F := by
  obtain ⟨F, ⟨h1, _⟩, _⟩ := h.get hi
  exact ⟨F, Ty.row_down h1⟩
/-- A row is written. -/
theorem Sp.mark (h : Sp w0 w ps) (hi : ps[i]? = some (Row T v xs)) : ∃ F, T.row true w v xs F ∧ F.Nodup ∧ ∀ w' ys, T.row true w' v ys F → Chg F w w' → Sp w0 w' (ps.set i (Row T v ys)) := by
  obtain ⟨F, ⟨h1, h2⟩, _, hall⟩ := h.upd hi
  exact ⟨F, h1, h2, fun w' ys hr hc => hall w' (Row T v ys) F hc ⟨hr, h2⟩ fun b hb => .inl hb⟩
end
end Go.Proofs.YtbemodacpimiiaaGreat

/- A region that draws its order: loads are taken first under a condition S that the other operations keep; the last operations, which stand in one forced order (a store, an assignment), need not keep it. No program in sight. -/
namespace Go.Proofs.YtbemodacpimiiaaGreat

section
variable {P : Program} {ops : Array Oper} {Q : Exit → Act → World → Prop} {md : Region.Mode} {S : World → Prop} {n : Nat} {L : Array Bool → Act → World → Prop}

/-- Whatever comes up is one of the first n; behind each S holds; behind them L. -/
def headH (P : Program) (md : Region.Mode) (ops : Array Oper) (Q : Exit → Act → World → Prop) (S : World → Prop) (n : Nat) (L : Array Bool → Act → World → Prop) : Nat → Array Bool → Act → World → Prop
  | 0, s, a, w => L s a w
  | f + 1, s, a, w => Region.ready md ops s ≠ [] ∧ ∀ i ∈ Region.ready md ops s, i < n ∧ wpOp P ops Q i (fun a' w' => S w' ∧ headH P md ops Q S n L f (s.setIfInBounds i true) a' w') a w

theorem any_of_headH {g : Nat} (hL : ∀ s a w, L s a w → wpAny P md ops Q g s a w) :
    ∀ (f : Nat) (s : Array Bool) (a : Act) (w : World), headH P md ops Q S n L f s a w → wpAny P md ops Q (f + g) s a w
  | 0, s, a, w, h => by rw [Nat.zero_add]; exact hL s a w h
  | f + 1, s, a, w, h => by
    rw [show f + 1 + g = (f + g) + 1 by omega]
    exact ⟨fun e => absurd e h.1, fun i hi => wpOp_mono (fun a' w' h' => any_of_headH hL f _ a' w' h'.2) (h.2 i hi).2⟩

theorem headH_first {i : Nat} {oi : Oper} {v : Value} (hi : ops[i]? = some oi) (hsel : ∀ (j : Nat) (o : Oper) cs b, ops[j]? = some o → o.op ≠ .select cs b)
    (hQ : ∀ c a w, Q (.panic c) (a.put oi.dst v) w → Q (.panic c) a w)
    (hs : Region.sinkB md ops n = true) (hc : Region.chainB md ops n = true) (hn : n < ops.size) (hin : i < n) (hL : ∀ s a w, L s a w → ∀ j ∈ Region.ready md ops s, n ≤ j) (f : Nat) :
    ∀ (s : Array Bool) (a : Act) (w : World), HeadInv md ops n s →
      (∀ j oj, ops[j]? = some oj → j ≠ i → s.getD j true = false → (∀ e ∈ oj.after, Region.binds md e = true → e.on ≠ i) → oi.apart ops oj = true) →
      i ∈ Region.ready md ops s → YieldsIf P ops S oi v a → S w → headH P md ops Q S n L f (s.setIfInBounds i true) (a.put oi.dst v) w → headH P md ops Q S n L (f + 1) s a w := by
  induction f with
  | zero =>
    intro s a w inv _ hr hy hS H
    refine ⟨List.ne_nil_of_mem hr, fun j hj => ?_⟩
    have hjn : j < n := Nat.lt_of_not_le fun h => tail_waits hs hc hn inv _ i rfl hin (mem_ready.1 hr).1 j h hj
    refine ⟨hjn, ?_⟩
    by_cases e : j = i
    · subst e; exact hy.wpOp hi hS ⟨hS, H⟩
    · exact absurd (hL _ _ _ H j (ready_mono hj e)) (by omega)
  | succ f ih =>
    intro s a w inv hfree hr hy hS H
    refine ⟨List.ne_nil_of_mem hr, fun j hj => ?_⟩
    have hjn : j < n := Nat.lt_of_not_le fun h => tail_waits hs hc hn inv _ i rfl hin (mem_ready.1 hr).1 j h hj
    refine ⟨hjn, ?_⟩
    by_cases e : j = i
    · subst e; exact hy.wpOp hi hS ⟨hS, H⟩
    · obtain ⟨hjs, oj, hoj, hall⟩ := mem_ready.1 hj
      have hno : ∀ e ∈ oj.after, Region.binds md e = true → e.on ≠ i := by
        intro x hx hb hxi
        have := hall x hx hb
        rw [hxi, getD_both (mem_ready.1 hr).1] at this; cases this
      have h1 := wpOp_putIf hoj (hfree j oj hoj e hjs hno) (fun cs b => hsel i oi cs b hi) (fun cs b => hsel j oj cs b hoj) hQ hy (H.2 j (ready_mono hj e)).2
      refine wpOp_mono (fun a' w' h2 => ⟨h2.2.1, ih (s.setIfInBounds j true) a' w' (inv.set hj hjn) (fun k ok hk hki hun hw => hfree k ok hk hki ?_ hw) (ready_mono hr (Ne.symm e)) h2.1 h2.2.1 ?_⟩) h1
      · by_cases hjk : j = k
        · subst hjk; exact hjs
        · rw [getD_set_ne true hjk] at hun; exact hun
      · rw [Array.setIfInBounds_comm _ _ e]; exact h2.2.2

/-- The walk's own judgement. -/
def walkT (P : Program) (md : Region.Mode) (ops : Array Oper) (Q : Exit → Act → World → Prop) (S : World → Prop) (n : Nat) (L : Array Bool → Act → World → Prop) (f : Nat) (s : Array Bool) (a : Act) (w : World) : Prop :=
  HeadInv md ops n s → headH P md ops Q S n L f s a w
/-- The checks on the region. -/
def tailOk (md : Region.Mode) (ops : Array Oper) (n : Nat) : Bool := Region.noSelect ops && decide (n < ops.size) && Region.sinkB md ops n && Region.chainB md ops n
/-- What stands behind the head: the rest in its one order. -/
def tailL (P : Program) (ops : Array Oper) (Q : Exit → Act → World → Prop) (n : Nat) (l : List Oper) (s : Array Bool) (a : Act) (w : World) : Prop :=
  Region.seqB .any ops l.length n s = true ∧ wpList P ops Q l a w

/-- Take number i first. -/
theorem walkT_take {i : Nat} {l : List Oper} {oi : Oper} {v : Value} {f : Nat} {s : Array Bool} {a : Act} {w : World} (hi : ops[i]? = some oi) (hok : tailOk .any ops n = true) (hin : i < n) (hf : Region.free .any ops s i = true)
    (hr : (Region.ready .any ops s).contains i = true) (hQ : ∀ c a w, Q (.panic c) (a.put oi.dst v) w → Q (.panic c) a w) (hy : YieldsIf P ops S oi v a) (hS : S w)
    (h : walkT P .any ops Q S n (tailL P ops Q n l) f (s.setIfInBounds i true) (a.put oi.dst v) w) : walkT P .any ops Q S n (tailL P ops Q n l) (f + 1) s a w := fun inv => by
  simp only [tailOk, Bool.and_eq_true, decide_eq_true_eq] at hok
  obtain ⟨⟨⟨hsel, hn⟩, hs⟩, hc⟩ := hok
  have hr' : i ∈ Region.ready .any ops s := by simpa using hr
  exact headH_first hi (Region.noSelect_spec hsel) hQ hs hc hn hin (fun s' a' w' hL => seqB_ready hL.1) f s a w inv (Region.free_spec hi hf) hr' hy hS (h (inv.set hr' hin))

/-- Each of the operations 'rs' comes up next. -/
def AllT (P : Program) (md : Region.Mode) (ops : Array Oper) (Q : Exit → Act → World → Prop) (S : World → Prop) (n : Nat) (L : Array Bool → Act → World → Prop) (f : Nat) (s : Array Bool) (a : Act) (w : World) (rs : List Nat) : Prop :=
  ∀ i ∈ rs, wpOp P ops Q i (fun a' w' => S w' ∧ walkT P md ops Q S n L f (s.setIfInBounds i true) a' w') a w
theorem AllT.nil {f : Nat} {s : Array Bool} {a : Act} {w : World} : AllT P md ops Q S n L f s a w [] := fun _ h => by cases h
theorem AllT.cons {f : Nat} {s : Array Bool} {a : Act} {w : World} {i : Nat} {o : Oper} {rs : List Nat} (ho : ops[i]? = some o)
    (h : ∀ K' : Act → World → Prop, Shut (∀ a w, S w → (S w → walkT P md ops Q S n L f (s.setIfInBounds i true) a w) → K' a w) → if Region.wanted o (yielded ops a.tmps) = true then Oper.wp P o a w K' Q else K' (a.put o.dst undef) w)
    (hs : AllT P md ops Q S n L f s a w rs) : AllT P md ops Q S n L f s a w (i :: rs) := fun j hj => by
  rcases List.mem_cons.1 hj with rfl | hj
  · exact wpOp_step ho (fun K' hK => h K' (fun a w hS hW => hK a w ⟨hS, hW hS⟩))
  · exact hs j hj
theorem walkT_ready {rs : List Nat} {f : Nat} {s : Array Bool} {a : Act} {w : World} (hr : Region.ready md ops s = rs) (hne : rs ≠ []) (hlt : rs.all (fun i => decide (i < n)) = true)
    (h : AllT P md ops Q S n L f s a w rs) : walkT P md ops Q S n L (f + 1) s a w := fun inv =>
  ⟨by rw [hr]; exact hne, fun i hi => by
    have hin : i < n := by simpa using List.all_eq_true.1 hlt i (hr ▸ hi)
    exact ⟨hin, wpOp_mono (fun a' w' h' => ⟨h'.1, h'.2 (inv.set hi hin)⟩) (h i (hr ▸ hi))⟩⟩
/-- The head is done. -/
theorem walkT_done {l : List Oper} {s : Array Bool} {a : Act} {w : World} (hs : Region.seqB .any ops l.length n s = true) (h : wpList P ops Q l a w) : walkT P .any ops Q S n (tailL P ops Q n l) 0 s a w := fun _ => ⟨hs, h⟩
end

/-- The beginning. -/
theorem wp_region_tail {P : Program} {S : World → Prop} {id : Nat} {Q : Exit → Act → World → Prop} {a : Act} {w : World} {l : List Oper} (n : Nat) (hm : P.follows .mixedOrders = true) (hok : tailOk .any l.toArray n = true) (hS : S w.drew)
    (h : S w.drew → walkT P .any l.toArray Q S n (tailL P l.toArray Q n (l.drop n)) n (Array.replicate l.toArray.size false) a w.drew) : (Code.region id l.toArray true).wp P Q a w := by
  have hn : n < l.length := by simp only [tailOk, Bool.and_eq_true, decide_eq_true_eq] at hok; simpa using hok.1.1.2
  have inv0 : HeadInv .any l.toArray n (Array.replicate l.toArray.size false) :=
    ⟨by simp, fun j oj _ hl => (by rw [getD_replicate_false] at hl; cases hl), fun t _ ht => getD_in (by simpa using ht) (getD_replicate_false _ _)⟩
  have hdl : (l.drop n).length = l.toArray.size - n := by simp
  refine wp_region_any hm ?_
  have H2 := any_of_headH (Q := Q) (g := l.toArray.size - n) (fun s a' w' hL => by
    have := wpAny_of_seq (md := .any) (Q' := Q) (l.drop n) n s a' w' (fun j => by simp [List.getElem?_drop]) hL.1 hL.2
    rwa [hdl] at this) _ _ _ _ (h hS inv0)
  rw [show n + (l.toArray.size - n) = l.toArray.size by simp; omega] at H2
  exact H2
/-- The same beginnings with the number of operations and the list of what has come up written out. -/
theorem wp_region_held_lit {P : Program} {S : World → Prop} {id : Nat} {Q : Exit → Act → World → Prop} {a : Act} {w : World} {l : List Oper} (N : Nat) (s0 : List Bool) (hN : l.length = N) (hs : Array.replicate l.toArray.size false = s0.toArray)
    (hm : P.follows .mixedOrders = true) (hS : S w.drew) (h : S w.drew → wpAnyH P .any l.toArray Q S N s0.toArray a w.drew) : (Code.region id l.toArray true).wp P Q a w := by
  subst hN
  refine wp_region_held_drew (S := S) hm hS fun hS' => ?_
  rw [hs]
  exact h hS'
theorem wp_region_tail_lit {P : Program} {S : World → Prop} {id : Nat} {Q : Exit → Act → World → Prop} {a : Act} {w : World} {l : List Oper} (n : Nat) (s0 : List Bool) (hs : Array.replicate l.toArray.size false = s0.toArray)
    (hm : P.follows .mixedOrders = true) (hok : tailOk .any l.toArray n = true) (hS : S w.drew)
    (h : S w.drew → walkT P .any l.toArray Q S n (tailL P l.toArray Q n (l.drop n)) n s0.toArray a w.drew) : (Code.region id l.toArray true).wp P Q a w := by
  refine wp_region_tail (S := S) n hm hok hS fun hS' => ?_
  rw [hs]
  exact h hS'
end Go.Proofs.YtbemodacpimiiaaGreat

/- A region that draws its order: as HTail, but the operations of the tail may come up in whatever order among themselves, once the head is done. No program in sight. -/
namespace Go.Proofs.YtbemodacpimiiaaGreat

section
variable {P : Program} {ops : Array Oper} {Q : Exit → Act → World → Prop} {md : Region.Mode} {S : World → Prop} {n : Nat} {L : Array Bool → Act → World → Prop}

/-- Each operation behind number n waits for one of the tail that stands ahead of it. -/
def chainW (md : Region.Mode) (ops : Array Oper) (n : Nat) : Bool :=
  (List.range ops.size).all fun t => decide (t ≤ n) || (List.range t).any fun k => decide (n ≤ k) && Region.waitsFor md ops t k

theorem tail_waitsW {listed : Array Bool} (hs : Region.sinkB md ops n = true) (hc : chainW md ops n = true) (hn : n < ops.size) (inv : HeadInv md ops n listed) :
    ∀ (d i : Nat), n - i = d → i < n → listed.getD i true = false → ∀ t, n ≤ t → t ∉ Region.ready md ops listed := by
  intro d
  induction d using Nat.strongRecOn with
  | _ d ih =>
    intro i hd hi hun t ht hr
    obtain ⟨_, ot, hot, hall⟩ := mem_ready.1 hr
    have htlt : t < ops.size := (Array.getElem?_eq_some_iff.1 hot).1
    by_cases htn : t = n
    · subst htn
      have h1 := List.all_eq_true.1 hs i (List.mem_range.2 hi)
      obtain ⟨j, hj, hj2⟩ := List.any_eq_true.1 h1
      simp only [Bool.and_eq_true, decide_eq_true_eq] at hj2
      obtain ⟨oj, hoj, e, he, hb, hon⟩ := Region.waitsFor_spec hj2.2
      have hjle : j ≤ t := by have := List.mem_range.1 hj; omega
      by_cases hjt : j = t
      · subst hjt
        have : oj = ot := Option.some.inj (hoj.symm.trans hot)
        subst this
        have h2 := hall e he hb
        rw [hon, getD_both hun] at h2
        cases h2
      · cases hl : listed.getD j false with
        | true =>
          have h2 := inv.closed j oj hoj hl e he hb
          rw [hon, getD_both hun] at h2
          cases h2
        | false =>
          have hjs : j < listed.size := by rw [inv.size]; omega
          exact ih (t - j) (by omega) j rfl (by omega) (getD_in hjs hl) t (Nat.le_refl _) hr
    · have h1 := List.all_eq_true.1 hc t (List.mem_range.2 htlt)
      simp only [Bool.or_eq_true, decide_eq_true_eq] at h1
      rcases h1 with h1 | h1
      · omega
      · obtain ⟨k, hk, hk2⟩ := List.any_eq_true.1 h1
        simp only [Bool.and_eq_true, decide_eq_true_eq] at hk2
        have hkt := List.mem_range.1 hk
        obtain ⟨o', ho', e, he, hb, hon⟩ := Region.waitsFor_spec hk2.2
        have : o' = ot := Option.some.inj (ho'.symm.trans hot)
        subst this
        have h2 := hall e he hb
        rw [hon, getD_both (inv.tail k hk2.1 (by omega))] at h2
        cases h2

theorem headW_first {i : Nat} {oi : Oper} {v : Value} (hi : ops[i]? = some oi) (hsel : ∀ (j : Nat) (o : Oper) cs b, ops[j]? = some o → o.op ≠ .select cs b)
    (hQ : ∀ c a w, Q (.panic c) (a.put oi.dst v) w → Q (.panic c) a w)
    (hs : Region.sinkB md ops n = true) (hc : chainW md ops n = true) (hn : n < ops.size) (hin : i < n) (hL : ∀ s a w, L s a w → ∀ j ∈ Region.ready md ops s, n ≤ j) (f : Nat) :
    ∀ (s : Array Bool) (a : Act) (w : World), HeadInv md ops n s →
      (∀ j oj, ops[j]? = some oj → j ≠ i → s.getD j true = false → (∀ e ∈ oj.after, Region.binds md e = true → e.on ≠ i) → oi.apart ops oj = true) →
      i ∈ Region.ready md ops s → YieldsIf P ops S oi v a → S w → headH P md ops Q S n L f (s.setIfInBounds i true) (a.put oi.dst v) w → headH P md ops Q S n L (f + 1) s a w := by
  induction f with
  | zero =>
    intro s a w inv _ hr hy hS H
    refine ⟨List.ne_nil_of_mem hr, fun j hj => ?_⟩
    have hjn : j < n := Nat.lt_of_not_le fun h => tail_waitsW hs hc hn inv _ i rfl hin (mem_ready.1 hr).1 j h hj
    refine ⟨hjn, ?_⟩
    by_cases e : j = i
    · subst e; exact hy.wpOp hi hS ⟨hS, H⟩
    · exact absurd (hL _ _ _ H j (ready_mono hj e)) (by omega)
  | succ f ih =>
    intro s a w inv hfree hr hy hS H
    refine ⟨List.ne_nil_of_mem hr, fun j hj => ?_⟩
    have hjn : j < n := Nat.lt_of_not_le fun h => tail_waitsW hs hc hn inv _ i rfl hin (mem_ready.1 hr).1 j h hj
    refine ⟨hjn, ?_⟩
    by_cases e : j = i
    · subst e; exact hy.wpOp hi hS ⟨hS, H⟩
    · obtain ⟨hjs, oj, hoj, hall⟩ := mem_ready.1 hj
      have hno : ∀ e ∈ oj.after, Region.binds md e = true → e.on ≠ i := by
        intro x hx hb hxi
        have := hall x hx hb
        rw [hxi, getD_both (mem_ready.1 hr).1] at this; cases this
      have h1 := wpOp_putIf hoj (hfree j oj hoj e hjs hno) (fun cs b => hsel i oi cs b hi) (fun cs b => hsel j oj cs b hoj) hQ hy (H.2 j (ready_mono hj e)).2
      refine wpOp_mono (fun a' w' h2 => ⟨h2.2.1, ih (s.setIfInBounds j true) a' w' (inv.set hj hjn) (fun k ok hk hki hun hw => hfree k ok hk hki ?_ hw) (ready_mono hr (Ne.symm e)) h2.1 h2.2.1 ?_⟩) h1
      · by_cases hjk : j = k
        · subst hjk; exact hjs
        · rw [getD_set_ne true hjk] at hun; exact hun
      · rw [Array.setIfInBounds_comm _ _ e]; exact h2.2.2

/-- The checks on the region. -/
def tailOkW (md : Region.Mode) (ops : Array Oper) (n : Nat) : Bool := Region.noSelect ops && decide (n < ops.size) && Region.sinkB md ops n && chainW md ops n
/-- What stands behind the head: the rest, in whatever order. -/
def tailW (P : Program) (ops : Array Oper) (Q : Exit → Act → World → Prop) (n : Nat) (s : Array Bool) (a : Act) (w : World) : Prop :=
  (Region.ready .any ops s).all (fun j => decide (n ≤ j)) = true ∧ wpAnyH P .any ops Q (fun _ => True) (ops.size - n) s a w

/-- Take number i first. -/
theorem walkW_take {i : Nat} {oi : Oper} {v : Value} {f : Nat} {s : Array Bool} {a : Act} {w : World} (hi : ops[i]? = some oi) (hok : tailOkW .any ops n = true) (hin : i < n) (hf : Region.free .any ops s i = true)
    (hr : (Region.ready .any ops s).contains i = true) (hQ : ∀ c a w, Q (.panic c) (a.put oi.dst v) w → Q (.panic c) a w) (hy : YieldsIf P ops S oi v a) (hS : S w)
    (h : walkT P .any ops Q S n (tailW P ops Q n) f (s.setIfInBounds i true) (a.put oi.dst v) w) : walkT P .any ops Q S n (tailW P ops Q n) (f + 1) s a w := fun inv => by
  simp only [tailOkW, Bool.and_eq_true, decide_eq_true_eq] at hok
  obtain ⟨⟨⟨hsel, hn⟩, hs⟩, hc⟩ := hok
  have hr' : i ∈ Region.ready .any ops s := by simpa using hr
  exact headW_first hi (Region.noSelect_spec hsel) hQ hs hc hn hin (fun s' a' w' hL j hj => by simpa using List.all_eq_true.1 hL.1 j hj) f s a w inv (Region.free_spec hi hf) hr' hy hS (h (inv.set hr' hin))
/-- The head is done. -/
theorem walkW_done {s : Array Bool} {a : Act} {w : World} (hs : (Region.ready .any ops s).all (fun j => decide (n ≤ j)) = true) (h : (fun _ => True : World → Prop) w → wpAnyH P .any ops Q (fun _ => True) (ops.size - n) s a w) : walkT P .any ops Q S n (tailW P ops Q n) 0 s a w := fun _ => ⟨hs, h trivial⟩
end

/-- The beginning. -/
theorem wp_region_tailW {P : Program} {S : World → Prop} {id : Nat} {Q : Exit → Act → World → Prop} {a : Act} {w : World} {l : List Oper} (n : Nat) (hm : P.follows .mixedOrders = true) (hok : tailOkW .any l.toArray n = true) (hS : S w.drew)
    (h : S w.drew → walkT P .any l.toArray Q S n (tailW P l.toArray Q n) n (Array.replicate l.toArray.size false) a w.drew) : (Code.region id l.toArray true).wp P Q a w := by
  have hn : n < l.length := by simp only [tailOkW, Bool.and_eq_true, decide_eq_true_eq] at hok; simpa using hok.1.1.2
  have inv0 : HeadInv .any l.toArray n (Array.replicate l.toArray.size false) :=
    ⟨by simp, fun j oj _ hl => (by rw [getD_replicate_false] at hl; cases hl), fun t _ ht => getD_in (by simpa using ht) (getD_replicate_false _ _)⟩
  refine wp_region_any hm ?_
  have H2 := any_of_headH (Q := Q) (g := l.toArray.size - n) (fun s a' w' hL => wpAny_of_held _ _ _ _ hL.2) _ _ _ _ (h hS inv0)
  rw [show n + (l.toArray.size - n) = l.toArray.size by simp; omega] at H2
  exact H2
end Go.Proofs.YtbemodacpimiiaaGreat

/- Contracts: diagrams in memory; valid ones; values. -/
namespace Go.Proofs.YtbemodacpimiiaaGreat
open Go.RowKit

/-- A node in memory: three cells. -/
def ndEnc (n : Nd) : List Value := [.int .i64 n.v, .int .i64 n.lo, .int .i64 n.hi]
def ndOk (n : Nd) : Prop := I64 n.v ∧ I64 n.lo ∧ I64 n.hi
abbrev ndTy : Ty Nd := Ty.flat 3 ndEnc ndOk (fun _ => rfl)
abbrev ndV (n : Nd) : Value := .agg #[.int .i64 n.v, .int .i64 n.lo, .int .i64 n.hi]
/-- The three cells of each node. -/
theorem row_nd {wr : Bool} {w : World} {v : Value} {xs : List Nd} {F : List Nat} (h : ndTy.row wr w v xs F) :
    ∃ a cap, v = .slice a xs.length cap ∧ xs.length ≤ cap ∧ cap ≤ 9223372036854775807 ∧ (∀ x ∈ xs, ndOk x) ∧
      ((xs = [] ∧ F = []) ∨ (xs ≠ [] ∧ ∃ b off, a = some ⟨b, off, none⟩ ∧ F = [b] ∧ ∀ j (hj : j < xs.length), cellIs wr w b (off + j * 3) (.int .i64 xs[j].v) ∧ cellIs wr w b (off + j * 3 + 1) (.int .i64 xs[j].lo) ∧ cellIs wr w b (off + j * 3 + 2) (.int .i64 xs[j].hi))) := by
  obtain ⟨a, cap, rfl, h1, h2, h3, h4⟩ := row_flat h
  refine ⟨a, cap, rfl, h1, h2, h3, h4.imp id ?_⟩
  rintro ⟨_, hne, b, off, rfl, rfl, hc⟩
  exact ⟨hne, b, off, rfl, rfl, fun j hj => ⟨hc j hj 0 _ rfl, by have := hc j hj 1 _ rfl; rwa [← Nat.add_assoc] at this, by have := hc j hj 2 _ rfl; rwa [← Nat.add_assoc] at this⟩⟩
/-- A diagram as a value. -/
abbrev dgV (r : Int) (v : Value) : Value := .agg #[.int .i64 r, v]
/-- The nodes of a slice can be read. -/
structure NdAt (w : World) (A : Option Addr) (ns : List Nd) : Prop where
  at_ : ∀ j (hj : j < ns.length), ∃ b off, A = some ⟨b, off, none⟩ ∧ w.cell? ⟨b, off + j * 3, none⟩ = some (.int .i64 ns[j].v) ∧ w.cell? ⟨b, off + j * 3 + 1, none⟩ = some (.int .i64 ns[j].lo) ∧ w.cell? ⟨b, off + j * 3 + 2, none⟩ = some (.int .i64 ns[j].hi)
  ok : ∀ x ∈ ns, ndOk x
theorem nd_at {wr : Bool} {w : World} {v : Value} {xs : List Nd} {F : List Nat} (h : ndTy.row wr w v xs F) : ∃ A c, v = .slice A xs.length c ∧ xs.length ≤ c ∧ c ≤ 9223372036854775807 ∧ NdAt w A xs := by
  obtain ⟨a, c, rfl, h1, h2, h3, h4⟩ := row_nd h
  refine ⟨a, c, rfl, h1, h2, ⟨fun j hj => ?_, h3⟩⟩
  rcases h4 with ⟨rfl, _⟩ | ⟨_, b, off, rfl, _, hc⟩
  · exact absurd hj (by simp)
  · obtain ⟨p0, p1, p2⟩ := hc j hj
    exact ⟨b, off, rfl, p0.1, p1.1, p2.1⟩
theorem NdAt.grow {w w' : World} {A : Option Addr} {ns : List Nd} (h : NdAt w A ns) (hb : Below w.heap.size w w') : NdAt w' A ns := by
  refine ⟨fun j hj => ?_, h.ok⟩
  obtain ⟨b, off, e, h1, h2, h3⟩ := h.at_ j hj
  exact ⟨b, off, e, (hb.cell (World.block_lt_of_cell? _ _ h1)).trans h1, (hb.cell (World.block_lt_of_cell? _ _ h2)).trans h2, (hb.cell (World.block_lt_of_cell? _ _ h3)).trans h3⟩

theorem within_b {x a b : Int} {q : Bool} (h : inB x a b = q) (w : World) : Calls Tryz.prog 47 #[.int .i64 x, .int .i64 a, .int .i64 b] w fun e w' => e = .returned (.bool q) ∧ Below w.heap.size w w' :=
  (within_any x a b w).mono fun e w' ⟨h1, h2⟩ => ⟨by rw [h1, h], h2 ▸ bb _⟩
theorem isVar_any (n x : Int) (w : World) : Calls Tryz.prog 104 #[.int .i64 n, .int .i64 x] w fun e w' => e = .returned (.bool (inB x 1 n)) ∧ w = w' := by
  go_enter Tryz.func104, Tryz.ntmps104
  go_wp2_with (go_at_call 47; refine (within_any _ _ _ _).mono ?_; rintro e w1 ⟨rfl, rfl⟩)
  go_ret
  exact ⟨rfl, rfl⟩

/-- Whether a number may stand in node i of this variable. -/
def kidB (ns : List Nd) (v : Int) (i : Nat) (k : Int) : Bool := inB k 0 (i + 1) && under ns v k
theorem ndB_kids {vars : Int} {ns : List Nd} {i : Nat} (hi : i < ns.length) : ndB vars ns i = (inB ns[i].v 1 vars && kidB ns ns[i].v i ns[i].lo && kidB ns ns[i].v i ns[i].hi) := by
  unfold ndB kidB
  rw [List.getD_eq_getElem?_getD, List.getElem?_eq_getElem hi]
  simp only [Option.getD_some]
  cases inB ns[i].v 1 vars <;> cases inB ns[i].lo 0 (i + 1) <;> cases inB ns[i].hi 0 (i + 1) <;> simp

set_option maxRecDepth 100000 in
set_option maxHeartbeats 4000000 in
theorem bddOk_any (vars r : Int) (A : Option Addr) (c : Nat) (ns : List Nd) (i : Nat) (w : World) (hx : NdAt w A ns) (hi : i < ns.length) (hl : ns.length ≤ 1000000) :
    Calls Tryz.prog 48 #[.int .i64 vars, dgV r (.slice A ns.length c), .int .i64 i] w fun e w' => e = .returned (.bool (ndB vars ns i)) ∧ Below w.heap.size w w' := by
  obtain ⟨b, off, rfl, k0, k1, k2⟩ := hx.at_ i hi
  have hbl : b < w.heap.size := World.block_lt_of_cell? _ _ k0
  obtain ⟨hov, hol, hoh⟩ := hx.ok _ (List.getElem_mem hi)
  have hR := Lib.hid (ndB_kids (vars := vars) hi)
  obtain ⟨n, hn⟩ : ∃ n, ns[i] = n := ⟨_, rfl⟩
  rw [hn] at k0 k1 k2 hR hov hol hoh
  obtain ⟨v, lo, hi'⟩ := n
  dsimp only at k0 k1 k2 hR hov hol hoh
  go_enter Tryz.func48, Tryz.ntmps48
  go_wp2_with fail
  have S0 := (((Sp.start w).alloc_box #[.int .i64 r, .slice (some ⟨b, off, none⟩) ns.length c] 26).alloc_box #[.int .i64 v, .int .i64 lo, .int .i64 hi'] 71).alloc_box #[.int .i64 lo, .int .i64 hi'] 3
  simp only [World.size_alloc] at S0
  replace S0 := Lib.hid S0
  have hnI : Hid (NdAt w (some ⟨b, off, none⟩) ns) := hx
  clear k0 k1 k2 hx
  go_loopw [21] (fun j wr => ∃ q : Nat, q ≤ 2 ∧ j = .int .i64 q ∧ Hid ((1 ≤ q → kidB ns v i lo = true) ∧ (2 ≤ q → kidB ns v i hi' = true)) ∧ Hid (Sp w wr [Box (w.heap.size + 1 + 1) 3 #[.int .i64 lo, .int .i64 hi'], Box (w.heap.size + 1) 71 #[.int .i64 v, .int .i64 lo, .int .i64 hi'], Box w.heap.size 26 #[.int .i64 r, .slice (some ⟨b, off, none⟩) ns.length c]])) (fun j _ => 2 - (intOf j).toNat)
  case atStart => exact ⟨0, by omega, rfl, ⟨fun h => absurd h (by decide), fun h => absurd h (by decide)⟩, S0⟩
  case round =>
    obtain ⟨q, hq, rfl, HD, HS⟩ := hrel
    clear S0
    by_cases hlt : q < 2
    · obtain ⟨κ, hκ, hc, hyes, hno⟩ : ∃ κ, I64 κ ∧ wr.cell? ⟨w.heap.size + 1 + 1, q, none⟩ = some (.int .i64 κ) ∧ Hid (kidB ns v i κ = true → ((1 ≤ q + 1 → kidB ns v i lo = true) ∧ (2 ≤ q + 1 → kidB ns v i hi' = true))) ∧ Hid (kidB ns v i κ = false → ndB vars ns i = false) := by
        obtain rfl | rfl : q = 0 ∨ q = 1 := by omega
        · exact ⟨lo, hol, HS.out.cell (i := 0) rfl rfl, fun h => ⟨fun _ => h, fun h => absurd h (by decide)⟩, fun h => by rw [hR.out, h]; simp⟩
        · exact ⟨hi', hoh, HS.out.cell (i := 0) rfl rfl, fun h => ⟨fun _ => HD.out.1 (by decide), fun _ => h⟩, fun h => by rw [hR.out, h]; simp⟩
      have c1 := cell_regrown hc
      have d0 := cell_regrown (HS.out.cell (i := 1) rfl (o := 0) rfl)
      have e1 := cell_regrown (HS.out.cell (i := 2) rfl (o := 1) rfl)
      obtain ⟨hκ0, hκ1⟩ := hκ
      have hadd : IntKind.i64.wrap ((i : Int) + 1) = (i : Int) + 1 := IntWalk.i64_in _ (by omega)
      cases hin : inB κ 0 ((i : Int) + 1)
      · have hF := hno.out (by unfold kidB; rw [hin]; rfl)
        clear hno hyes
        go_wp2_with fail
        refine wp_region_quiet_below (by kernel_rfl) (by kernel_rfl) ?_
        repeat (any_goals (go_big_quiet_step ((go_at_call 47; exact Calls.regrown_of (within_b hin _)))))
        refine wpQuiet_nil ?_
        rintro w1 ⟨p, rfl⟩
        have HS2 := Lib.hid (HS.out.grow (below_regrown _ p.d p.os))
        clear HS c1 d0 e1
        go_wp2_with fail
        go_ret
        exact ⟨ret_bool hF.symm, HS2.out.below⟩
      obtain ⟨hi0, hi1⟩ := inB_def.1 hin
      by_cases h2 : (2 : Int) ≤ κ
      · obtain ⟨m, hκm⟩ : ∃ m : Nat, κ = (m : Int) + 2 := ⟨(κ - 2).toNat, by omega⟩
        have hm : m < ns.length := by omega
        have hsub : IntKind.i64.wrap (κ - 2) = (m : Int) := by rw [IntWalk.i64_in _ (by omega)]; omega
        obtain ⟨b', off', e, m0, _, _⟩ := (hnI.out.grow HS.out.below).at_ m hm
        cases e
        have m0' := cell_regrown m0
        have hun : under ns v κ = !decide (ns[m].v ≤ v) := by
          unfold under
          rw [hκm]
          rw [show ((m : Int) + 2 - 2).toNat = m by omega, List.getD_eq_getElem?_getD, List.getElem?_eq_getElem hm]
          simp only [Option.getD_some]
          rw [show decide ((m : Int) + 2 < 2) = false by simp; omega, Bool.false_or]
          by_cases h : v < ns[m].v
          · rw [decide_eq_true h, decide_eq_false (by omega)]; rfl
          · rw [decide_eq_false h, decide_eq_true (by omega)]; rfl
        generalize ns[m].v = mv at m0 m0' hun
        clear hn hi0 hi1 hκm
        cases hle : decide (mv ≤ v)
        · have hD := Lib.hid (hyes.out (by unfold kidB; rw [hin, hun, hle]; rfl))
          clear hno hyes hun m0 HD
          go_wp2_with fail
          refine wp_region_quiet_below (by kernel_rfl) (by kernel_rfl) ?_
          repeat (any_goals (go_big_quiet_step ((go_at_call 47; exact Calls.regrown_of (within_b hin _)))))
          refine wpQuiet_nil ?_
          rintro w1 ⟨p, rfl⟩
          have HS2 := Lib.hid (HS.out.grow (below_regrown _ p.d p.os))
          clear HS c1 d0 e1 m0'
          go_wp2_with fail
          go_roundw
          case rel => exact ⟨q + 1, by omega, by go_num, hD, HS2⟩
          case measure => simp [intOf]; omega
        · have hF := hno.out (by unfold kidB; rw [hin, hun, hle]; rfl)
          clear hno hyes hun m0
          go_wp2_with fail
          refine wp_region_quiet_below (by kernel_rfl) (by kernel_rfl) ?_
          repeat (any_goals (go_big_quiet_step ((go_at_call 47; exact Calls.regrown_of (within_b hin _)))))
          refine wpQuiet_nil ?_
          rintro w1 ⟨p, rfl⟩
          have HS2 := Lib.hid (HS.out.grow (below_regrown _ p.d p.os))
          clear HS c1 d0 e1 m0'
          go_wp2_with fail
          go_ret
          exact ⟨ret_bool hF.symm, HS2.out.below⟩
      · have hD := Lib.hid (hyes.out (by unfold kidB under; rw [hin, decide_eq_true (by omega : κ < 2)]; rfl))
        have hge : decide ((2 : Int) ≤ κ) = false := decide_eq_false h2
        clear hno hyes HD
        go_wp2_with fail
        refine wp_region_quiet_below (by kernel_rfl) (by kernel_rfl) ?_
        repeat (any_goals (go_big_quiet_step ((go_at_call 47; exact Calls.regrown_of (within_b hin _)))))
        refine wpQuiet_nil ?_
        rintro w1 ⟨p, rfl⟩
        have HS2 := Lib.hid (HS.out.grow (below_regrown _ p.d p.os))
        clear HS c1 d0 e1
        go_wp2_with fail
        go_roundw
        case rel => exact ⟨q + 1, by omega, by go_num, hD, HS2⟩
        case measure => simp [intOf]; omega
    · obtain rfl : q = 2 := by omega
      have d0 := HS.out.cell (i := 1) rfl (o := 0) rfl
      have hR2 : Hid (ndB vars ns i = inB v 1 vars) := by unfold Hid; rw [hR.out, HD.out.1 (by decide), HD.out.2 (by decide)]; simp
      have hB := HS.out.below
      clear HS HD hR
      go_wp2_with (go_at_call 104; refine (isVar_any _ _ _).mono ?_; rintro e w1 ⟨rfl, rfl⟩)
      go_ret
      exact ⟨ret_bool hR2.out.symm, hB⟩

theorem nds_no {vars : Int} {ns : List Nd} {k : Nat} (hk : k < ns.length) (h : ndB vars ns k = false) : ndsB vars ns ns.length = false := by
  cases hh : ndsB vars ns ns.length
  · rfl
  · have := ndsB_ok.1 hh k hk
    rw [h] at this; cases this
theorem goodD_def (vars r : Int) (ns : List Nd) : goodD vars r ns = (inB vars 0 6 && decide (ns.length ≤ 63) && inB r 0 (ns.length + 1) && ndsB vars ns ns.length) := rfl

set_option maxRecDepth 100000 in
set_option maxHeartbeats 4000000 in
theorem isDiagram_any (vars r : Int) (A : Option Addr) (c : Nat) (ns : List Nd) (w : World) (hx : NdAt w A ns) (hl : ns.length ≤ 1000000) :
    Calls Tryz.prog 9 #[.int .i64 vars, dgV r (.slice A ns.length c)] w fun e w' => e = .returned (.bool (goodD vars r ns)) ∧ Below w.heap.size w w' := by
  have hR := Lib.hid (goodD_def vars r ns)
  have S0 := (Sp.start w).alloc_box #[.int .i64 r, .slice A ns.length c] 26
  have hB := S0.below
  cases h1 : inB vars 0 6
  · have hF : Hid (goodD vars r ns = false) := by unfold Hid; rw [hR.out, h1]; rfl
    clear S0
    go_enter Tryz.func9, Tryz.ntmps9
    go_wp2_with (go_at_call 47; refine (within_any _ _ _ _).mono ?_; rw [h1]; rintro e w1 ⟨rfl, rfl⟩)
    go_ret
    exact ⟨ret_bool hF.out.symm, hB⟩
  by_cases h2 : (63 : Int) < ns.length
  · have hF : Hid (goodD vars r ns = false) := by unfold Hid; rw [hR.out, decide_eq_false (by omega : ¬ ns.length ≤ 63)]; simp
    clear S0
    go_enter Tryz.func9, Tryz.ntmps9
    go_wp2_with (go_at_call 47; refine (within_any _ _ _ _).mono ?_; rw [h1]; rintro e w1 ⟨rfl, rfl⟩)
    go_ret
    exact ⟨ret_bool hF.out.symm, hB⟩
  cases h3 : inB r 0 ((ns.length : Int) + 1)
  · have hF : Hid (goodD vars r ns = false) := by unfold Hid; rw [hR.out, h3]; simp
    clear S0
    go_enter Tryz.func9, Tryz.ntmps9
    go_wp2_with (go_at_call 47; refine (within_any _ _ _ _).mono ?_; (first | rw [h1] | rw [h3]); rintro e w1 ⟨rfl, rfl⟩)
    go_ret
    exact ⟨ret_bool hF.out.symm, hB⟩
  have hR2 : Hid (goodD vars r ns = ndsB vars ns ns.length) := by
    unfold Hid; rw [hR.out, h1, h3, decide_eq_true (by omega : ns.length ≤ 63)]; simp
  replace S0 := Lib.hid S0
  have hN := Lib.hid hx
  clear hR hx hB
  go_enter Tryz.func9, Tryz.ntmps9
  go_wp2_with (go_at_call 47; refine (within_any _ _ _ _).mono ?_; (first | rw [h1] | rw [h3]); rintro e w1 ⟨rfl, rfl⟩)
  go_loopw [28] (fun i wr => ∃ k : Nat, k ≤ ns.length ∧ i = .int .i64 k ∧ Hid (ndsB vars ns k = true) ∧ Hid (Sp w wr [Box w.heap.size 26 #[.int .i64 r, .slice A ns.length c]])) (fun i _ => ns.length - (intOf i).toNat)
  case atStart => exact ⟨0, Nat.zero_le _, rfl, rfl, S0⟩
  case round =>
    obtain ⟨k, hk, rfl, HD, HS⟩ := hrel
    clear S0
    by_cases hlt : k < ns.length
    · have c0 := HS.out.cell (i := 0) rfl (o := 0) rfl
      have c1 := HS.out.cell (i := 0) rfl (o := 1) rfl
      have hcall := Lib.hid (bddOk_any vars r A c ns k wr (hN.out.grow HS.out.below) hlt hl)
      go_wp2_with fail
      refine hcall.out.mono ?_
      rintro e w1 ⟨rfl, hb1⟩
      have HS2 := Lib.hid (HS.out.grow hb1)
      cases hq : ndB vars ns k
      · have hF : Hid (goodD vars r ns = false) := by unfold Hid; rw [hR2.out]; exact nds_no hlt hq
        clear HS hcall HD hb1
        go_wp2_with fail
        go_ret
        exact ⟨ret_bool hF.out.symm, HS2.out.below⟩
      · have hD2 : Hid (ndsB vars ns (k + 1) = true) := by unfold Hid; rw [ndsB_succ, HD.out, hq]; rfl
        clear HS hcall HD hb1
        go_wp2_with fail
        go_roundw
        case rel => exact ⟨k + 1, by omega, by go_num, hD2, HS2⟩
        case measure => simp [intOf]; omega
    · obtain rfl : k = ns.length := by omega
      go_wp2_with fail
      go_ret
      exact ⟨ret_bool (by rw [hR2.out, HD.out]), HS.out.below⟩
end Go.Proofs.YtbemodacpimiiaaGreat

/- Contracts: values of diagrams. -/
namespace Go.Proofs.YtbemodacpimiiaaGreat
open Go.RowKit

/-- Numbers of nodes lie ahead of the nodes; variables are from 1 on. -/
def WkN (ns : List Nd) : Prop := ∀ i (h : i < ns.length), 1 ≤ ns[i].v ∧ (0 ≤ ns[i].lo ∧ ns[i].lo ≤ i + 1) ∧ (0 ≤ ns[i].hi ∧ ns[i].hi ≤ i + 1)
theorem OkN.wk {vars : Int} {ns : List Nd} (h : OkN vars ns) : WkN ns := fun i hi => by
  obtain ⟨h1, h2, h3, _⟩ := (ndB_get hi).1 (h i hi)
  exact ⟨h1.1, h2, h3⟩
/-- A bit that is shifted to the end. -/
theorem bit_end (b : Nat) (hb : b < 2 ^ 62) (v : Int) (hv : 1 ≤ v) : bits .and .i64 ((b : Int) / 2 ^ min (v.toNat - 1) 64) 1 = if bitN b v then 1 else 0 := by
  have e0 : (b : Int) / 2 ^ min (v.toNat - 1) 64 = ((b / 2 ^ min (v.toNat - 1) 64 : Nat) : Int) := by
    rw [Int.natCast_ediv, Int.natCast_pow]; rfl
  rw [e0, and_one _ (Nat.lt_of_le_of_lt (Nat.div_le_self _ _) (Nat.lt_trans hb (by decide)))]
  have h64 : ∀ s, 64 ≤ s → b.testBit s = false := fun s hs => Nat.testBit_lt_two_pow (Nat.lt_of_lt_of_le hb (Nat.pow_le_pow_right (by decide) (by omega)))
  have e : bitN b v = b.testBit (min (v.toNat - 1) 64) := by
    unfold bitN
    rw [show (v - 1).toNat = v.toNat - 1 by omega]
    rcases Nat.lt_or_ge (v.toNat - 1) 64 with h | h
    · rw [Nat.min_eq_left (by omega)]
    · rw [h64 _ h, h64 _ (by omega)]
  rw [e, Nat.testBit_eq_decide_div_mod_eq]
  rcases Nat.mod_two_eq_zero_or_one (b / 2 ^ min (v.toNat - 1) 64) with h | h
  · rw [h]; simp
  · rw [h]; simp
theorem valD_low {κ : Int} (h : κ < 2) (ns : List Nd) (b : Nat) : valD κ ns b = decide (κ = 1) := by unfold valD pv; rw [if_pos h]

set_option maxRecDepth 100000 in
set_option maxHeartbeats 4000000 in
theorem value_any (r κ0 : Int) (b : Nat) (A : Option Addr) (c : Nat) (ns : List Nd) (w : World) (hx : NdAt w A ns) (hl : ns.length ≤ 1000000) (hw : WkN ns) (h0 : 0 ≤ κ0) (h1 : κ0 ≤ ns.length + 1) (hb : b < 2 ^ 62) :
    Calls Tryz.prog 101 #[dgV r (.slice A ns.length c), .int .i64 κ0, .int .i64 b] w fun e w' => e = .returned (.bool (valD κ0 ns b)) ∧ Below w.heap.size w w' := by
  have S0 := Lib.hid ((Sp.start w).alloc_box #[.int .i64 r, .slice A ns.length c] 26)
  have hN := Lib.hid hx
  clear hx
  go_enter Tryz.func101, Tryz.ntmps101
  go_wp2_with fail
  go_loopw [1] (fun k wr => ∃ κ : Int, 0 ≤ κ ∧ κ ≤ ns.length + 1 ∧ k = .int .i64 κ ∧ Hid (valD κ ns b = valD κ0 ns b) ∧ Hid (Sp w wr [Box w.heap.size 26 #[.int .i64 r, .slice A ns.length c]])) (fun k _ => (intOf k).toNat)
  case atStart => exact ⟨κ0, h0, h1, rfl, rfl, S0⟩
  case round =>
    obtain ⟨κ, hk0, hk1, rfl, HD, HS⟩ := hrel
    clear S0
    by_cases h2 : (2 : Int) ≤ κ
    · obtain ⟨m, hκm⟩ : ∃ m : Nat, κ = (m : Int) + 2 := ⟨(κ - 2).toNat, by omega⟩
      have hm : m < ns.length := by omega
      have hsub : IntKind.i64.wrap (κ - 2) = (m : Int) := by rw [IntWalk.i64_in _ (by omega)]; omega
      obtain ⟨g, off, e, m0, m1, m2⟩ := (hN.out.grow HS.out.below).at_ m hm
      have hgl : g < wr.heap.size := World.block_lt_of_cell? _ _ m0
      obtain ⟨hv, hlo, hhi⟩ := hw m hm
      obtain ⟨ov, _, _⟩ := hN.out.ok _ (List.getElem_mem hm)
      have c1 := HS.out.cell (i := 0) rfl (o := 1) rfl
      have hkv := Lib.hid (vals_at hm b)
      have hand := bit_end b hb ns[m].v hv
      rw [← hκm] at hkv
      unfold kid at hkv
      generalize ns[m] = n at *
      obtain ⟨v, lo, hi⟩ := n
      dsimp only at *
      have hw64 : IntKind.i64.wrap (v - 1) = v - 1 := IntWalk.i64_in _ (by unfold I64 at ov; omega)
      have hB := (bal (bb wr) (.cells #[.int .i64 v, .int .i64 lo, .int .i64 hi] 71))
      have HS2 := Lib.hid (HS.out.grow hB)
      clear HS hB
      have hkl : lo ≤ (m : Int) + 1 := hlo.2
      have hkh : hi ≤ (m : Int) + 1 := hhi.2
      cases ht : bitN b v
      · rw [ht] at hand
        simp only [Bool.false_eq_true, if_false] at hand
        have hk2 : Hid (valD lo ns b = valD κ0 ns b) := by
          unfold Hid
          rw [← HD.out, hkv.out (by rw [ht]; exact hkl), ht]; rfl
        clear hkv HD
        replace hκm := Lib.hid hκm
        go_wp2_with fail
        go_roundw
        case rel => exact ⟨lo, hlo.1, by omega, rfl, hk2, HS2⟩
        case measure => have := hκm.out; simp [intOf]; omega
      · rw [ht] at hand
        simp only [if_true] at hand
        have hk2 : Hid (valD hi ns b = valD κ0 ns b) := by
          unfold Hid
          rw [← HD.out, hkv.out (by rw [ht]; exact hkh), ht]; rfl
        clear hkv HD
        replace hκm := Lib.hid hκm
        go_wp2_with fail
        go_roundw
        case rel => exact ⟨hi, hhi.1, by omega, rfl, hk2, HS2⟩
        case measure => have := hκm.out; simp [intOf]; omega
    · have hk : Hid ((κ == 1) = valD κ0 ns b) := by
        unfold Hid
        rw [← HD.out, valD_low (by omega)]; rfl
      go_wp2_with fail
      go_ret
      exact ⟨ret_bool hk.out, HS.out.below⟩

set_option maxHeartbeats 1000000 in
theorem valueAt_any (r : Int) (b : Nat) (A : Option Addr) (c : Nat) (ns : List Nd) (w : World) (hx : NdAt w A ns) (hl : ns.length ≤ 1000000) (hw : WkN ns) (h0 : 0 ≤ r) (h1 : r ≤ ns.length + 1) (hb : b < 2 ^ 62) :
    Calls Tryz.prog 43 #[dgV r (.slice A ns.length c), .int .i64 b] w fun e w' => e = .returned (.bool (valD r ns b)) ∧ Below w.heap.size w w' := by
  have hB := bal (bb w) (.cells #[.int .i64 r, .slice A ns.length c] 26)
  have hN := hx.grow hB
  have hcall := Lib.hid (value_any r r b A c ns _ hN hl hw h0 h1 hb)
  clear hN hx
  go_enter Tryz.func43, Tryz.ntmps43
  go_wp2_with fail
  refine hcall.out.mono ?_
  rintro e w1 ⟨rfl, hb1⟩
  have hB2 := btr hB hb1
  clear hB hb1 hcall
  go_wp2_with fail
  go_ret
  exact ⟨rfl, hB2⟩

set_option maxRecDepth 100000 in
set_option maxHeartbeats 4000000 in
theorem specValue_any (r : Int) (b : Nat) (A : Option Addr) (c : Nat) (ns : List Nd) (w : World) (hx : NdAt w A ns) (hl : ns.length ≤ 1000000) (hw : WkN ns) (h0 : 0 ≤ r) (h1 : r ≤ ns.length + 1) (hb : b < 2 ^ 62) :
    Calls Tryz.prog 103 #[dgV r (.slice A ns.length c), .int .i64 b] w fun e w' => e = .returned (.bool (valD r ns b)) ∧ Below w.heap.size w w' := by
  have S0 := Lib.hid ((Sp.start w).alloc_box #[.int .i64 r, .slice A ns.length c] 26)
  have hN := Lib.hid hx
  clear hx
  go_enter Tryz.func103, Tryz.ntmps103
  go_wp2_with fail
  go_loopw [5] (fun k wr => ∃ κ : Int, 0 ≤ κ ∧ κ ≤ ns.length + 1 ∧ k = .int .i64 κ ∧ Hid (valD κ ns b = valD r ns b) ∧ Hid (Sp w wr [Box w.heap.size 26 #[.int .i64 r, .slice A ns.length c]])) (fun k _ => (intOf k).toNat)
  case atStart => exact ⟨r, h0, h1, rfl, rfl, S0⟩
  case round =>
    obtain ⟨κ, hk0, hk1, rfl, HD, HS⟩ := hrel
    clear S0
    by_cases h2 : (1 : Int) < κ
    · obtain ⟨m, hκm⟩ : ∃ m : Nat, κ = (m : Int) + 2 := ⟨(κ - 2).toNat, by omega⟩
      have hm : m < ns.length := by omega
      have hsub : IntKind.i64.wrap (κ - 2) = (m : Int) := by rw [IntWalk.i64_in _ (by omega)]; omega
      obtain ⟨g, off, e, m0, m1, m2⟩ := (hN.out.grow HS.out.below).at_ m hm
      have hgl : g < wr.heap.size := World.block_lt_of_cell? _ _ m0
      obtain ⟨hv, hlo, hhi⟩ := hw m hm
      obtain ⟨ov, _, _⟩ := hN.out.ok _ (List.getElem_mem hm)
      have c1 := HS.out.cell (i := 0) rfl (o := 1) rfl
      have hkv := Lib.hid (vals_at hm b)
      have hand := bit_end b hb ns[m].v hv
      rw [← hκm] at hkv
      unfold kid at hkv
      generalize ns[m] = n at *
      obtain ⟨v, lo, hi⟩ := n
      dsimp only at *
      have hw64 : IntKind.i64.wrap (v - 1) = v - 1 := IntWalk.i64_in _ (by unfold I64 at ov; omega)
      have hB := (bal (bb wr) (.cells #[.int .i64 v, .int .i64 lo, .int .i64 hi] 71))
      have HS2 := Lib.hid (HS.out.grow hB)
      clear HS hB
      have hkl : lo ≤ (m : Int) + 1 := hlo.2
      have hkh : hi ≤ (m : Int) + 1 := hhi.2
      cases ht : bitN b v
      · rw [ht] at hand
        simp only [Bool.false_eq_true, if_false] at hand
        have hk2 : Hid (valD lo ns b = valD r ns b) := by
          unfold Hid
          rw [← HD.out, hkv.out (by rw [ht]; exact hkl), ht]; rfl
        clear hkv HD
        replace hκm := Lib.hid hκm
        go_wp2_with fail
        go_roundw
        case rel => exact ⟨lo, hlo.1, by omega, rfl, hk2, HS2⟩
        case measure => have := hκm.out; simp [intOf]; omega
      · rw [ht] at hand
        simp only [if_true] at hand
        have hk2 : Hid (valD hi ns b = valD r ns b) := by
          unfold Hid
          rw [← HD.out, hkv.out (by rw [ht]; exact hkh), ht]; rfl
        clear hkv HD
        replace hκm := Lib.hid hκm
        go_wp2_with fail
        go_roundw
        case rel => exact ⟨hi, hhi.1, by omega, rfl, hk2, HS2⟩
        case measure => have := hκm.out; simp [intOf]; omega
    · have hk : Hid ((κ == 1) = valD r ns b) := by
        unfold Hid
        rw [← HD.out, valD_low (by omega)]; rfl
      go_wp2_with fail
      go_ret
      exact ⟨ret_bool hk.out, HS.out.below⟩
end Go.Proofs.YtbemodacpimiiaaGreat

/- append onto an own row from any slice, empty or nil let in. No program in sight. -/
namespace Go.Proofs.YtbemodacpimiiaaGreat
open Go.RowKit

/-- A slice whose cells are these; a nil or empty one has none. -/
def Src (w : World) (A : Option Addr) (m size : Nat) (news : List Value) : Prop :=
  (m = 0 ∧ news = []) ∨ ∃ ad, A = some ad ∧ news.length = m * size ∧ ∀ j u, news[j]? = some u → w.cell? (ad.add j) = some u

section
variable {P : Program} {w : World} {t ty e : TypeId} {i : TypeInfo} {z : Value} {size bytes : Nat}
theorem run_append_src (ht : P.underlying t = some (.slice e)) (hi : P.info? e = some i) (hz : i.zero = some z) (hsize : i.size = size) (hby : i.bytes = bytes) (hzs : z.cells.size = size) (hsz : 0 < size)
    (v : Value) (n : Nat) (xs : List Value) (hown : w.ownsRow 0 e size v n xs) (A : Option Addr) (m c : Nat) (news : List Value) (hsrc : Src w A m size news) (h1 : ∀ u ∈ news, u.oneCell' = true)
    (h63 : n + m ≤ maxLen) (hbytes : (n + m) * bytes ≤ 140737488355328) :
    ∃ v' w', (Builtin.append_ #[t, t] ty #[v, .slice A m c]).run P w = .ok v' w' ∧ w'.ownsRow 0 e size v' (n + m) (xs ++ news) ∧ w.grownBy w' v.ownBlock ∧ (v'.ownBlock = v.ownBlock ∨ v'.ownBlock = some w.heap.size) := by
  rcases hsrc with ⟨rfl, rfl⟩ | ⟨ad, ha, hl, hn⟩
  · cases A with
    | some ad =>
      obtain ⟨v', w', h2, h3, h4, _, h5⟩ := run_append_own_at (P := P) w 0 t ty e i z size bytes ht hi hz hsize hby hzs hsz v n xs hown ad 0 c [] (by simp) (by simp) h1 h63 hbytes (Nat.zero_le _)
      exact ⟨v', w', h2, h3, h4, h5⟩
    | none =>
      refine ⟨v, w, ?_, by simpa using hown, World.grownBy.refl w _, .inl rfl⟩
      obtain ⟨_, ⟨rfl, rfl⟩ | ⟨g, cap, cur, rfl, _, _, hn, _⟩⟩ := hown
      · simp [Builtin.append_, run_underlying ht, sizeOf, typeInfo, hi, Builtin.lenOf, Builtin.firstCells]
      · simp [Builtin.append_, run_underlying ht, sizeOf, typeInfo, hi, Builtin.lenOf, Builtin.firstCells, hn, storeCells]
  · subst ha
    obtain ⟨v', w', h2, h3, h4, _, h5⟩ := run_append_own_at (P := P) w 0 t ty e i z size bytes ht hi hz hsize hby hzs hsz v n xs hown ad m c news hl hn h1 h63 hbytes (Nat.zero_le _)
    exact ⟨v', w', h2, h3, h4, h5⟩
theorem wp_append_src {o : Oper} {a : Act} {K : Act → World → Prop} {Q : Exit → Act → World → Prop} (s x : Operand)
    (ho : o.op = .call { callee := .builtin .append, args := #[s, x], argTypes := #[t, t] })
    (ht : P.underlying t = some (.slice e)) (hi : P.info? e = some i) (hz : i.zero = some z) (hsize : i.size = size) (hby : i.bytes = bytes) (hzs : z.cells.size = size) (hsz : 0 < size)
    (v : Value) (n : Nat) (xs : List Value) (hs : a.eval s = v) (hown : w.ownsRow 0 e size v n xs) (A : Option Addr) (m c : Nat) (news : List Value) (hx : a.eval x = .slice A m c) (hsrc : Src w A m size news) (h1 : ∀ u ∈ news, u.oneCell' = true)
    (h63 : n + m ≤ maxLen) (hbytes : (n + m) * bytes ≤ 140737488355328)
    (h : ∀ v' w', w'.ownsRow 0 e size v' (n + m) (xs ++ news) → w.grownBy w' v.ownBlock → (v'.ownBlock = v.ownBlock ∨ v'.ownBlock = some w.heap.size) → K (a.put o.dst v') w') : o.wp P a w K Q := by
  obtain ⟨v', w', hr, h2, h3, h4⟩ := run_append_src (P := P) (w := w) (ty := o.type) ht hi hz hsize hby hzs hsz v n xs hown A m c news hsrc h1 h63 hbytes
  unfold Oper.wp execOp
  simp only [ho, resolve, invoke, builtin, Sem.run_bind, Sem.run_pure, Result.andThen_ok, List.map_toArray, List.map_cons, List.map_nil, hs, hx, hr]
  exact h v' w' h2 h3 h4
theorem wpList_append_src {ops : Array Oper} {rest : List Oper} {o : Oper} {a : Act} {Q : Exit → Act → World → Prop} (hgd : o.guard = none) (s x : Operand)
    (ho : o.op = .call { callee := .builtin .append, args := #[s, x], argTypes := #[t, t] })
    (ht : P.underlying t = some (.slice e)) (hi : P.info? e = some i) (hz : i.zero = some z) (hsize : i.size = size) (hby : i.bytes = bytes) (hzs : z.cells.size = size) (hsz : 0 < size)
    (v : Value) (n : Nat) (xs : List Value) (hs : a.eval s = v) (hown : w.ownsRow 0 e size v n xs) (A : Option Addr) (m c : Nat) (news : List Value) (hx : a.eval x = .slice A m c) (hsrc : Src w A m size news) (h1 : ∀ u ∈ news, u.oneCell' = true)
    (h63 : n + m ≤ maxLen) (hbytes : (n + m) * bytes ≤ 140737488355328)
    (h : ∀ v' w', w'.ownsRow 0 e size v' (n + m) (xs ++ news) → w.grownBy w' v.ownBlock → (v'.ownBlock = v.ownBlock ∨ v'.ownBlock = some w.heap.size) → wpList P ops Q rest (a.put o.dst v') w') : wpList P ops Q (o :: rest) a w :=
  wpList_plain hgd fun _ hK => wp_append_src s x ho ht hi hz hsize hby hzs hsz v n xs hs hown A m c news hx hsrc h1 h63 hbytes fun v' w' h2 h3 h4 => hK _ _ (h v' w' h2 h3 h4)
theorem step_append_src {ops : Array Oper} {o : Oper} {a : Act} {K : Act → World → Prop} {Q : Exit → Act → World → Prop} {E : Prop} (hgd : o.guard = none) (s x : Operand)
    (ho : o.op = .call { callee := .builtin .append, args := #[s, x], argTypes := #[t, t] })
    (ht : P.underlying t = some (.slice e)) (hi : P.info? e = some i) (hz : i.zero = some z) (hsize : i.size = size) (hby : i.bytes = bytes) (hzs : z.cells.size = size) (hsz : 0 < size)
    (v : Value) (n : Nat) (xs : List Value) (hs : a.eval s = v) (hown : w.ownsRow 0 e size v n xs) (A : Option Addr) (m c : Nat) (news : List Value) (hx : a.eval x = .slice A m c) (hsrc : Src w A m size news) (h1 : ∀ u ∈ news, u.oneCell' = true)
    (h63 : n + m ≤ maxLen) (hbytes : (n + m) * bytes ≤ 140737488355328)
    (h : ∀ v' w', w'.ownsRow 0 e size v' (n + m) (xs ++ news) → w.grownBy w' v.ownBlock → (v'.ownBlock = v.ownBlock ∨ v'.ownBlock = some w.heap.size) → K (a.put o.dst v') w') :
    if Region.wanted o (yielded ops a.tmps) = true then Oper.wp P o a w K Q else E := by
  have hw : Region.wanted o (yielded ops a.tmps) = true := by simp [Region.wanted, hgd]
  rw [if_pos hw]
  exact wp_append_src s x ho ht hi hz hsize hby hzs hsz v n xs hs hown A m c news hx hsrc h1 h63 hbytes h
end

theorem add_none (b off j : Nat) : (⟨b, off, none⟩ : Addr).add j = ⟨b, off + j, none⟩ := by unfold Addr.add; split <;> simp_all
theorem Src.one {w : World} {b : Nat} {x : Value} (h : w.cell? ⟨b, 0, none⟩ = some x) : Src w (some ⟨b, 0, none⟩) 1 1 [x] :=
  .inr ⟨_, rfl, rfl, fun j u hj => by
    match j, hj with
    | 0, hj => simp at hj; subst hj; rw [add_none]; exact h⟩
theorem Src.keep {w w' : World} {A : Option Addr} {m size : Nat} {news : List Value} (h : Src w A m size news) (hk : ∀ a, A = some a → ∀ o u, w.cell? (a.add o) = some u → w'.cell? (a.add o) = some u) : Src w' A m size news := by
  rcases h with h | ⟨ad, rfl, h1, h2⟩
  · exact .inl h
  · exact .inr ⟨ad, rfl, h1, fun j u hj => hk _ rfl j u (h2 j u hj)⟩
theorem Src.grow {w w' : World} {A : Option Addr} {m size : Nat} {news : List Value} (h : Src w A m size news) (hb : Below w.heap.size w w') : Src w' A m size news :=
  h.keep fun _ _ _ _ hc => (hb.cell (World.block_lt_of_cell? _ _ hc)).trans hc
/-- A row as a source. -/
theorem row_src {α : Type} {T : Ty α} {wr : Bool} {w : World} {v : Value} {xs : List α} {F : List Nat} (h : T.row wr w v xs F) : ∃ A c cs G, v = .slice A xs.length c ∧ T.all wr w cs xs G ∧ Src w A xs.length T.size cs ∧ (∀ b ∈ G, b ∈ F) := by
  obtain ⟨a, cap, cs, G, rfl, h1, h2, hall, ⟨rfl, rfl⟩ | ⟨hs, hne, b, off, rfl, rfl, hc⟩⟩ := h
  · obtain ⟨rfl, rfl⟩ := hall
    exact ⟨a, cap, [], [], rfl, ⟨rfl, rfl⟩, .inl ⟨rfl, rfl⟩, by simp⟩
  · refine ⟨_, cap, cs, G, rfl, hall, .inr ⟨_, rfl, Ty.all_len hall, fun j u hj => ?_⟩, fun x hx => List.mem_cons_of_mem _ hx⟩
    have hjl := (List.getElem?_eq_some_iff.1 hj).1
    rw [add_none, (hc j hjl).1, ← List.getElem?_eq_getElem hjl, hj]
theorem row_src_int {wr : Bool} {w : World} {v : Value} {xs : List Int} {F : List Nat} (h : Ty.int.row wr w v xs F) : ∃ A c, v = .slice A xs.length c ∧ Src w A xs.length 1 (xs.map (.int .i64)) := by
  obtain ⟨A, c, cs, G, rfl, hall, hs, _⟩ := row_src h
  obtain ⟨rfl, _, _⟩ := Ty.all_int_inv hall
  exact ⟨A, c, rfl, hs⟩

/-- Where a slice from k on lies. -/
def cutA (A : Option Addr) (cap k size : Nat) : Option Addr := if cap = k then A else A.map (·.add (k * size))
section
variable {P : Program} {T e : TypeId} {i : TypeInfo} {size : Nat} {ρ : Operand → Value} {o : Oper} {x y : Operand} {A : Option Addr} {len cap k : Nat} {w : World}
theorem exec_slice_to (ho : o.op = .slice T x none (some y) none) (hx : ρ x = .slice A len cap) (hy : ρ y = .int .i64 k) (hT : P.underlying T = some (.slice e)) (hi : P.info? e = some i) (hk : k ≤ cap) :
    (execOp ρ o).run P w = .ok (.value (.slice A k cap)) w := by
  have hb : (Instr.sliceBounds true len cap none (some (.int .i64 k)) none).run P w = .ok (0, k, cap) w := by
    simp [Instr.sliceBounds, run_sliceBound (P := P) w .i64 (k : Int) cap .sliceAcap (by omega) (by omega)]
  have hA : (if cap = 0 then A else A.map (·.add 0)) = A := by
    split
    · rfl
    · cases A <;> simp [Addr.add]
  unfold execOp
  simp [ho, hx, hy, Instr.sliceAt, run_underlying hT, Instr.slice, hb, sizeOf, typeInfo, hi, hA]
theorem exec_slice_from (ho : o.op = .slice T x (some y) none none) (hx : ρ x = .slice A len cap) (hy : ρ y = .int .i64 k) (hT : P.underlying T = some (.slice e)) (hi : P.info? e = some i) (hs : i.size = size) (hk : k ≤ len) :
    (execOp ρ o).run P w = .ok (.value (.slice (cutA A cap k size) (len - k) (cap - k))) w := by
  have hb : (Instr.sliceBounds true len cap (some (.int .i64 k)) none none).run P w = .ok (k, len, cap) w := by
    simp [Instr.sliceBounds, run_sliceBound (P := P) w .i64 (k : Int) len .sliceB (by omega) (by omega)]
  subst hs
  unfold execOp cutA
  simp [ho, hx, hy, Instr.sliceAt, run_underlying hT, Instr.slice, hb, sizeOf, typeInfo, hi]
end
theorem Src.to {w : World} {A : Option Addr} {m size k : Nat} {news : List Value} (h : Src w A m size news) (hk : k ≤ m) : Src w A k size (news.take (k * size)) := by
  rcases h with ⟨rfl, rfl⟩ | ⟨ad, rfl, h1, h2⟩
  · exact .inl ⟨by omega, by simp⟩
  · refine .inr ⟨ad, rfl, ?_, fun j u hj => ?_⟩
    · rw [List.length_take, h1]
      have := Nat.mul_le_mul_right size hk
      omega
    · rw [List.getElem?_take] at hj
      split at hj
      · exact h2 j u hj
      · cases hj
theorem Src.from {w : World} {b off cap : Nat} {m size k : Nat} {news : List Value} (h : Src w (some ⟨b, off, none⟩) m size news) (hk : k ≤ m) (hm : m ≤ cap) : Src w (cutA (some ⟨b, off, none⟩) cap k size) (m - k) size (news.drop (k * size)) := by
  rcases h with ⟨rfl, rfl⟩ | ⟨ad, e, h1, h2⟩
  · exact .inl ⟨by omega, by simp⟩
  · cases e
    unfold cutA
    by_cases hc : cap = k
    · obtain rfl : m = k := by omega
      exact .inl ⟨by omega, by rw [List.drop_eq_nil_of_le (by omega)]⟩
    · rw [if_neg hc]
      refine .inr ⟨_, rfl, by rw [List.length_drop, h1, Nat.sub_mul], fun j u hj => ?_⟩
      rw [List.getElem?_drop] at hj
      have := h2 _ u hj
      rw [add_none] at this
      show w.cell? (((⟨b, off, none⟩ : Addr).add (k * size)).add j) = some u
      rw [add_none, add_none, Nat.add_assoc]
      exact this
theorem Src.from_nil {w : World} {m cap size k : Nat} {news : List Value} (h : Src w none m size news) (hk : k ≤ m) : Src w (cutA none cap k size) (m - k) size (news.drop (k * size)) := by
  rcases h with ⟨rfl, rfl⟩ | ⟨ad, e, _⟩
  · exact .inl ⟨by omega, by simp⟩
  · cases e
end Go.Proofs.YtbemodacpimiiaaGreat

/- Contracts: the plan of values, in the program. -/
namespace Go.Proofs.YtbemodacpimiiaaGreat
open Go.RowKit

def idxN (ns : List Nd) (n : Nd) : Int := if n ∈ ns then (ns.idxOf n : Nat) else -1
theorem idx_here {ns : List Nd} {n : Nd} {k : Nat} (hk : k < ns.length) (h : n ∉ ns.take k) (e : ns[k] = n) : idxN ns n = k := by
  unfold idxN
  have hmem : n ∈ ns := e ▸ List.getElem_mem hk
  rw [if_pos hmem]
  have h1 : ns.idxOf n = k := by
    have h2 : ns = ns.take k ++ ns.drop k := (List.take_append_drop k ns).symm
    rw [h2, List.idxOf_append, if_neg h, List.length_take, Nat.min_eq_left (Nat.le_of_lt hk), ← List.getElem_cons_drop hk, e]
    simp
  rw [h1]
theorem idx_next {ns : List Nd} {n : Nd} {k : Nat} (hk : k < ns.length) (h : n ∉ ns.take k) (e : ns[k] ≠ n) : n ∉ ns.take (k + 1) := by
  rw [List.take_succ_eq_append_getElem hk]
  simp only [List.mem_append, List.mem_singleton, not_or]
  exact ⟨h, fun h2 => e h2.symm⟩

theorem nd_guard : Tryz.prog.eqGuardType Tryz.prog.depth 71 = false := by kernel_rfl
theorem nd_held : Tryz.prog.stoodInHeld 71 = false := by kernel_rfl
theorem nd_fields : Tryz.prog.underlying 71 = some (.struct (Tryz.prog.fieldsOf 71)) := by kernel_rfl
theorem eql_nd (a b : Nd) (w : World) : (binOp .eql 71 (ndV a) (ndV b)).run Tryz.prog w = .ok (.bool (a.v == b.v && a.lo == b.lo && a.hi == b.hi)) w := by
  rw [run_eql_struct, run_equalIn_agg w 9999 _ _ _ nd_fields nd_held]
  simp only [Program.fieldsOf, Tryz.underlying71]
  go_simp
  by_cases h1 : a.v = b.v <;> by_cases h2 : a.lo = b.lo <;> by_cases h3 : a.hi = b.hi <;> simp [h1, h2, h3]
theorem nd_eqB (a b : Nd) : (a.v == b.v && a.lo == b.lo && a.hi == b.hi) = decide (a = b) := by
  obtain ⟨x, y, z⟩ := a
  obtain ⟨x', y', z'⟩ := b
  simp only [Nd.mk.injEq]
  by_cases h1 : x = x' <;> by_cases h2 : y = y' <;> by_cases h3 : z = z' <;> simp [h1, h2, h3]

set_option maxRecDepth 100000 in
set_option maxHeartbeats 4000000 in
theorem indexNd_any (n : Nd) (A : Option Addr) (c : Nat) (ns : List Nd) (w : World) (hx : NdAt w A ns) (hl : ns.length ≤ 1000000) :
    Calls Tryz.prog 126 #[.slice A ns.length c, ndV n] w fun e w' => e = .returned (.int .i64 (idxN ns n)) ∧ Below w.heap.size w w' := by
  obtain ⟨v, lo, hi⟩ := n
  have S0 := Lib.hid ((Sp.start w).alloc_box #[.int .i64 v, .int .i64 lo, .int .i64 hi] 71)
  have hN := Lib.hid hx
  clear hx
  go_enter Tryz.func126, Tryz.ntmps126
  go_wp2_with fail
  go_loopw [8] (fun i wr => ∃ k : Nat, k ≤ ns.length ∧ i = .int .i64 k ∧ Hid ((⟨v, lo, hi⟩ : Nd) ∉ ns.take k) ∧ Hid (Sp w wr [Box w.heap.size 71 #[.int .i64 v, .int .i64 lo, .int .i64 hi]])) (fun i _ => ns.length - (intOf i).toNat)
  case atStart => exact ⟨0, Nat.zero_le _, rfl, by unfold Hid; simp, S0⟩
  case round =>
    obtain ⟨k, hk, rfl, HD, HS⟩ := hrel
    clear S0
    by_cases hlt : k < ns.length
    · obtain ⟨b, off, rfl, m0, m1, m2⟩ := (hN.out.grow HS.out.below).at_ k hlt
      have k0 := cell_regrown m0
      have k1 := cell_regrown m1
      have k2 := cell_regrown m2
      have c0 := cell_regrown (HS.out.cell (i := 0) rfl (o := 0) rfl)
      have c1 := cell_regrown (HS.out.cell (i := 0) rfl (o := 1) rfl)
      have c2 := cell_regrown (HS.out.cell (i := 0) rfl (o := 2) rfl)
      have hyes := Lib.hid (idx_here hlt HD.out)
      have hno := Lib.hid (idx_next hlt HD.out)
      generalize ns[k] = m at *
      obtain ⟨v', lo', hi'⟩ := m
      dsimp only at *
      clear m0 m1 m2
      have hst := nd_held
      have hgu := nd_guard
      by_cases e : (⟨v', lo', hi'⟩ : Nd) = ⟨v, lo, hi⟩
      · have hR := Lib.hid (hyes.out e)
        cases e
        clear hyes hno HD
        go_wp2_with fail
        refine wp_region_quiet_below (by kernel_rfl) (by kernel_rfl) ?_
        repeat (any_goals (go_big_quiet_step (fail)))
        refine wpQuiet_nil ?_
        rintro w1 ⟨p, rfl⟩
        have HS2 := Lib.hid (HS.out.grow (below_regrown _ p.d p.os))
        clear HS k0 k1 k2 c0 c1 c2
        go_wp2_with fail
        go_ret
        exact ⟨ret_int hR.out.symm, HS2.out.below⟩
      · have hD := Lib.hid (hno.out e)
        have hcase : (¬ v = v') ∨ (v = v' ∧ ¬ lo = lo') ∨ (v = v' ∧ lo = lo' ∧ ¬ hi = hi') := by
          by_cases h1 : v = v'
          · by_cases h2 : lo = lo'
            · exact .inr (.inr ⟨h1, h2, fun h3 => e (by rw [h1, h2, h3])⟩)
            · exact .inr (.inl ⟨h1, h2⟩)
          · exact .inl h1
        clear hyes hno HD e
        rcases hcase with hne | ⟨rfl, hne⟩ | ⟨rfl, rfl, hne⟩
        all_goals
          go_wp2_with fail
          refine wp_region_quiet_below (by kernel_rfl) (by kernel_rfl) ?_
          repeat (any_goals (go_big_quiet_step (fail)))
          refine wpQuiet_nil ?_
          rintro w1 ⟨p, rfl⟩
          have HS2 := Lib.hid (HS.out.grow (below_regrown _ p.d p.os))
          clear HS k0 k1 k2 c0 c1 c2
          go_wp2_with fail
          go_roundw
          case rel => exact ⟨k + 1, by omega, by go_num, hD, HS2⟩
          case measure => simp [intOf]; omega
    · obtain rfl : k = ns.length := by omega
      have hR : Hid (idxN ns ⟨v, lo, hi⟩ = -1) := by
        unfold Hid idxN
        have := HD.out
        rw [List.take_length] at this
        rw [if_neg this]
      have hB := HS.out.below
      clear HD HS
      go_wp2_with fail
      go_ret
      exact ⟨ret_int hR.out.symm, hB⟩
end Go.Proofs.YtbemodacpimiiaaGreat

/- Own rows: their blocks, stores into them, parts in front. -/
namespace Go.Proofs.YtbemodacpimiiaaGreat
open Go.RowKit

theorem owns_base {w : World} {B : Nat} {e : TypeId} {size : Nat} {v : Value} {n : Nat} {xs : List Value} (h : w.ownsRow 0 e size v n xs) (hB : ∀ g, v.ownBlock = some g → B ≤ g) : w.ownsRow B e size v n xs := by
  obtain ⟨hl, h | ⟨g, cap, cur, rfl, hg, r⟩⟩ := h
  · exact ⟨hl, .inl h⟩
  · exact ⟨hl, .inr ⟨g, cap, cur, rfl, hB g rfl, r⟩⟩
theorem owns_zero {w : World} {B : Nat} {e : TypeId} {size : Nat} {v : Value} {n : Nat} {xs : List Value} (h : w.ownsRow B e size v n xs) : w.ownsRow 0 e size v n xs := by
  obtain ⟨hl, h | ⟨g, cap, cur, rfl, hg, r⟩⟩ := h
  · exact ⟨hl, .inl h⟩
  · exact ⟨hl, .inr ⟨g, cap, cur, rfl, Nat.zero_le _, r⟩⟩
theorem owns_ge {w : World} {B : Nat} {e : TypeId} {size : Nat} {v : Value} {n : Nat} {xs : List Value} (h : w.ownsRow B e size v n xs) : ∀ g, v.ownBlock = some g → B ≤ g := by
  obtain ⟨hl, ⟨rfl, _⟩ | ⟨g, cap, cur, rfl, hg, r⟩⟩ := h
  · intro g hg; cases hg
  · intro g' hg'
    obtain rfl : g = g' := by simpa [Value.ownBlock] using hg'
    exact hg
/-- The row that a list of parts owns, at the end. -/
theorem Sp.owns_end {w0 w : World} {ps : List Asn} {i : Nat} {size n : Nat} {e : TypeId} {v : Value} {xs : List Value} (h : Sp w0 w ps) (hi : ps[i]? = some (Own e size v n xs)) : w.ownsRow w0.heap.size e size v n xs := by
  obtain ⟨F, ⟨rfl, h1⟩, h2⟩ := h.get hi
  exact owns_base h1 fun g hg => h2 g (by simp [hg])
theorem Sp.own_call {w0 w w' : World} {ps : List Asn} {size n : Nat} {e : TypeId} {v : Value} {xs : List Value} (h : Sp w0 w ps) (hb : Below w.heap.size w w') (ho : w'.ownsRow w.heap.size e size v n xs) : Sp w0 w' (Own e size v n xs :: ps) :=
  h.own_new hb (owns_zero ho) (owns_ge ho)
theorem sep_append : ∀ {qs ps : List Asn} {w : World} {F G : List Nat}, sep qs w F → sep ps w G → (∀ b ∈ F, b ∉ G) → sep (qs ++ ps) w (F ++ G)
  | [], ps, w, F, G, h, k, hd => by
    obtain rfl : F = [] := h
    exact k
  | q :: qs, ps, w, F, G, h, k, hd => by
    obtain ⟨F1, F2, rfl, h1, h2, h3⟩ := h
    refine ⟨F1, F2 ++ G, by rw [List.append_assoc], fun b hb hb2 => ?_, h2, sep_append h3 k fun b hb => hd b (List.mem_append.2 (.inr hb))⟩
    rcases List.mem_append.1 hb2 with h | h
    · exact h1 b hb h
    · exact hd b (List.mem_append.2 (.inl hb)) h
/-- Parts made by a call go in front. -/
theorem Sp.seq {w0 w w' : World} {ps qs : List Asn} (h : Sp w0 w ps) (k : Sp w w' qs) : Sp w0 w' (qs ++ ps) := by
  obtain ⟨h1, G, h2, h3⟩ := h
  obtain ⟨k1, F, k2, k3⟩ := k
  refine ⟨btr h1 k1, F ++ G, sep_append k2 (sep_keep h2 fun b hm => k1.block b (sep_lt h2 b hm)) (fun b hb hb2 => ?_), fun b hb => ?_⟩
  · have := k3 b hb; have := sep_lt h2 b hb2; omega
  · rcases List.mem_append.1 hb with h | h
    · have := k3 b h; have := h1.size; omega
    · exact h3 b h
theorem own_slice {w : World} {B : Nat} {e : TypeId} {size : Nat} {v : Value} {n : Nat} {xs : List Value} (h : w.ownsRow B e size v n xs) : ∃ a c, v = .slice a n c := by
  obtain ⟨_, ⟨rfl, rfl⟩ | ⟨g, cap, cur, rfl, _⟩⟩ := h
  · exact ⟨_, _, rfl⟩
  · exact ⟨_, _, rfl⟩
theorem own_from {w : World} {B : Nat} {e : TypeId} {size : Nat} {A : Option Addr} {n c : Nat} {k : Nat} {xs : List Value} (h : w.ownsRow B e size (.slice A n c) k xs) : ∀ a, A = some a → B ≤ a.block := by
  rintro a rfl
  exact owns_ge h a.block rfl
/-- An own row, told by its block. -/
theorem own_block {w : World} {B : Nat} {e : TypeId} {size : Nat} {v : Value} {n : Nat} {xs : List Value} (h : w.ownsRow B e size v n xs) (hn : 0 < n) :
    ∃ g cap cur, v = .slice (some ⟨g, 0, none⟩) n cap ∧ B ≤ g ∧ w.heap[g]? = some (.cells cur e (0, 0)) ∧ n ≤ cap ∧ cap ≤ maxLen ∧ cur.size = cap * size ∧ cur.toList.take (n * size) = xs := by
  obtain ⟨_, ⟨_, h0⟩ | h⟩ := h
  · omega
  · exact h
theorem own_at {w : World} {g : Nat} {cur : Array Value} {e : TypeId} {size n : Nat} {xs : List Value} (hh : w.heap[g]? = some (.cells cur e (0, 0))) (ht : cur.toList.take (n * size) = xs) {o : Nat} (ho : o < n * size) : w.cell? ⟨g, o, none⟩ = xs[o]? ∧ w.frozen? ⟨g, o, none⟩ = false :=
  ⟨hown_cell hh ht ho, by simp [World.frozen?, hh]⟩
/-- A store into an own row. -/
theorem Sp.own_put {w0 w : World} {ps : List Asn} {i g cap n size o : Nat} {e : TypeId} {xs : List Value} (h : Sp w0 w ps) (hi : ps[i]? = some (Own e size (.slice (some ⟨g, 0, none⟩) n cap) n xs)) (u : Value) (ho : o < n * size) :
    Sp w0 (w.setCell ⟨g, o, none⟩ u) (ps.set i (Own e size (.slice (some ⟨g, 0, none⟩) n cap) n (xs.set o u))) := by
  obtain ⟨F, ⟨rfl, hh⟩, hF, hall⟩ := h.upd hi
  have hlen := hh.1
  obtain ⟨g', cap', cur, e1, h0, hg, hn, hm, hc, ht⟩ := own_block hh (by
    rcases Nat.eq_zero_or_pos n with rfl | h
    · simp at ho
    · exact h)
  simp only [Value.slice.injEq, Option.some.injEq, Addr.mk.injEq] at e1
  obtain ⟨⟨rfl, _⟩, _, rfl⟩ := e1
  have hset : (w.setCell ⟨g, o, none⟩ u).heap[g]? = some (.cells (cur.setIfInBounds o u) e (0, 0)) := by
    simp [World.setCell, Array.getElem?_modify]
    exact ⟨_, hg, rfl⟩
  refine hall _ _ [g] ?_ ⟨rfl, by rw [List.length_set]; exact hlen, .inr ⟨g, cap, cur.setIfInBounds o u, rfl, Nat.zero_le _, hset, hn, hm, by rw [Array.size_setIfInBounds]; exact hc, ?_⟩⟩ fun b hb => .inl hb
  · exact ⟨rfl, rfl, rfl, by simp [World.setCell], fun k _ hn => Below.heap_setCell _ _ _ _ (by simpa [Value.ownBlock] using hn)⟩
  · rw [Array.toList_setIfInBounds, List.take_set, ht]
end Go.Proofs.YtbemodacpimiiaaGreat
