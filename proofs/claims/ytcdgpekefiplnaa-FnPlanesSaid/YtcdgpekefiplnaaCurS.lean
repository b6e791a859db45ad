/- Memory in parts beside a cursor that turns. -/
import Derived.Test.YtcdgpekefiplnaaCur
import Derived.Test.YtcdgpekefiplnaaSepB
import Derived.Test.YtcdgpekefiplnaaOwnB
namespace Go.Proofs.Ytcdgpekefiplnaa
open Go.RowKit

theorem ints_new {lo hi : Int} {W : World} {cs : Array Value} {t : TypeId} {b n : Nat} (hb : b = W.heap.size) (h : ∀ j, j < n → ∃ x, cs[j]? = some (.int .i64 x) ∧ lo ≤ x ∧ x ≤ hi) : ∀ j, j < n → ∃ x, lo ≤ x ∧ x ≤ hi ∧ (W.alloc (.cells cs t)).cell? ⟨b, 0 + j, none⟩ = some (.int .i64 x) := fun j hj => by
  obtain ⟨x, h1, h2, h3⟩ := h j hj
  subst hb
  refine ⟨x, h2, h3, ?_⟩
  rw [Nat.zero_add]
  exact (cell_of_row _ _ _ _ _ _ (heap_alloc_new W _)).trans h1
theorem CurPost.chg {R : Value → Prop} {A g : Nat} {ca : Option Addr} {cl cc : Nat} {w w1 : World} {e : Ending} {w' : World} (h : CurPost R A g ca cl cc w1 e w') (hc : Chg [g] w w1) : CurPost R A g ca cl cc w e w' := by
  obtain ⟨v, h1, h2, h3, h4⟩ := h
  exact ⟨v, h1, h2, h3, hc.trans h4⟩
theorem CurIs.stay {A A' g cl cc : Nat} {ca : Option Addr} {w W W' : World} (h : CurIs A g ca cl cc w) (hi : CurIs A' g ca cl cc W) (hk : ∀ k, k < w.heap.size → W'.heap[k]? = W.heap[k]?) : CurIs A' g ca cl cc W' := by
  have hg := h.lt
  have hl := h.code
  obtain ⟨⟨i, s, h1, h2⟩, h3, h4, h5⟩ := hi
  refine ⟨⟨i, s, (hk g hg).trans h1, h2⟩, ?_, h4, h5⟩
  rcases Nat.eq_zero_or_pos cl with rfl | hp
  · exact .zero _ _
  · exact h3.keep fun a ha => hk _ (hl.lt hp a ha)

/-- Parts of the call's own, beside a cursor g that was there. -/
def CS (w0 : World) (g : Nat) (ca : Option Addr) (cl cc A : Nat) (w : World) (ps : List Asn) : Prop :=
  (∃ A0, CurIs A0 g ca cl cc w0) ∧ CurIs A g ca cl cc w ∧ Chg [g] w0 w ∧ ∃ F, sep ps w F ∧ ∀ b ∈ F, w0.heap.size ≤ b
section
variable {w0 w w' w1 : World} {g cl cc A A' i b o n n' size : Nat} {ca : Option Addr} {ps : List Asn} {q : Asn} {t e : TypeId} {cs : Array Value} {v v' : Value} {xs xs' : List Value}
theorem CS.start (h : CurIs A g ca cl cc w) : CS w g ca cl cc A w [] := ⟨⟨A, h⟩, h, Chg.refl _ _, [], rfl, by simp⟩
theorem CS.cur (h : CS w0 g ca cl cc A w ps) : CurIs A g ca cl cc w := h.2.1
theorem CS.chg (h : CS w0 g ca cl cc A w ps) : Chg [g] w0 w := h.2.2.1
theorem CS.glt (h : CS w0 g ca cl cc A w ps) : g < w0.heap.size := by obtain ⟨⟨A0, h0⟩, _⟩ := h; exact h0.lt
theorem CS.mono (h : CS w0 g ca cl cc A w ps) (hA : A ≤ A') : CS w0 g ca cl cc A' w ps := ⟨h.1, h.2.1.mono hA, h.2.2⟩
theorem CS.turn (h : CS w0 g ca cl cc A w ps) (hi : CurIs A' g ca cl cc w') (hc : Chg [g] w w') : CS w0 g ca cl cc A' w' ps := by
  have hg := h.glt
  obtain ⟨h0, h1, h2, F, h3, h4⟩ := h
  exact ⟨h0, hi, h2.trans hc, F, sep_keep h3 fun b hm => hc.block b (sep_lt h3 b hm) fun hb => by
    obtain rfl : b = g := by simpa using hb
    have := h4 b hm; omega, h4⟩
theorem CS.grow (h : CS w0 g ca cl cc A w ps) (hb : Below w.heap.size w w') : CS w0 g ca cl cc A w' ps := by
  obtain ⟨h0, h1, h2, F, h3, h4⟩ := h
  exact ⟨h0, h1.grow hb, h2.then hb, F, sep_keep h3 fun b hm => hb.block b (sep_lt h3 b hm), h4⟩
theorem CS.new {F : List Nat} (h : CS w0 g ca cl cc A w ps) (hb : Below w.heap.size w w') (hq : q.p w' F) (hF : ∀ b ∈ F, w.heap.size ≤ b) : CS w0 g ca cl cc A w' (q :: ps) := by
  have hsz := h.chg.size
  obtain ⟨h0, h1, h2, F', h3, h4⟩ := h
  refine ⟨h0, h1.grow hb, h2.then hb, F ++ F', ⟨F, F', rfl, fun b hm hm2 => ?_, hq, sep_keep h3 fun b hm => hb.block b (sep_lt h3 b hm)⟩, fun b hm => ?_⟩
  · have := hF b hm; have := sep_lt h3 b hm2; omega
  · rcases List.mem_append.1 hm with hm | hm
    · have := hF b hm; omega
    · exact h4 b hm
theorem CS.upd (h : CS w0 g ca cl cc A w ps) (hi : ps[i]? = some q) : ∃ Fi, q.p w Fi ∧ (∀ b ∈ Fi, w0.heap.size ≤ b) ∧
    ∀ w' q' Fi', Chg Fi w w' → q'.p w' Fi' → (∀ b ∈ Fi', b ∈ Fi ∨ w.heap.size ≤ b) → CS w0 g ca cl cc A w' (ps.set i q') := by
  have hsz := h.chg.size
  obtain ⟨h0, h1, h2, F, h3, h4⟩ := h
  obtain ⟨Fi, hp, hsub, hall⟩ := sep_upd h3 hi
  refine ⟨Fi, hp, fun b hb => h4 b (hsub b hb), fun w' q' Fi' hc hq hF => ?_⟩
  obtain ⟨F', hs, hF'⟩ := hall w' q' Fi' hc hq hF
  have hk : ∀ k, k < w0.heap.size → w'.heap[k]? = w.heap[k]? := fun k hk => hc.block k (Nat.lt_of_lt_of_le hk hsz) fun hm => by have := h4 k (hsub k hm); omega
  obtain ⟨A0, h0'⟩ := h0
  exact ⟨⟨A0, h0'⟩, h0'.stay h1 hk, ⟨hc.os.trans h2.os, hc.tape.trans h2.tape, hc.output.trans h2.output, Nat.le_trans h2.size hc.size, fun k hk' hn => (hk k hk').trans (h2.block k hk' hn)⟩, F', hs, fun b hb => (hF' b hb).elim (h4 b) (Nat.le_trans hsz)⟩
theorem CS.get (h : CS w0 g ca cl cc A w ps) (hi : ps[i]? = some q) : ∃ Fi, q.p w Fi ∧ (∀ b ∈ Fi, w0.heap.size ≤ b) := by
  obtain ⟨Fi, h1, h2, _⟩ := h.upd hi
  exact ⟨Fi, h1, h2⟩
theorem CS.tail (h : CS w0 g ca cl cc A w (q :: ps)) : CS w0 g ca cl cc A w ps := by
  obtain ⟨h0, h1, h2, F, ⟨F1, F2, rfl, _, _, h3⟩, h4⟩ := h
  exact ⟨h0, h1, h2, F2, h3, fun b hb => h4 b (List.mem_append.2 (.inr hb))⟩
theorem CS.swap {q' : Asn} (h : CS w0 g ca cl cc A w (q :: q' :: ps)) : CS w0 g ca cl cc A w (q' :: q :: ps) := by
  obtain ⟨h0, h1, h2, F, ⟨F1, F2, rfl, hd, hq, F3, F4, rfl, hd2, hq', h3⟩, h4⟩ := h
  refine ⟨h0, h1, h2, F3 ++ (F1 ++ F4), ⟨F3, F1 ++ F4, rfl, fun b hb hb2 => ?_, hq', F1, F4, rfl, fun b hb hb2 => hd b hb (List.mem_append.2 (.inr hb2)), hq, h3⟩, fun b hb => ?_⟩
  · rcases List.mem_append.1 hb2 with hb2 | hb2
    · exact hd b hb2 (List.mem_append.2 (.inl hb))
    · exact hd2 b hb hb2
  · apply h4
    simp only [List.mem_append] at hb ⊢
    rcases hb with h | h | h
    · exact .inr (.inl h)
    · exact .inl h
    · exact .inr (.inr h)
theorem CS.third {q1 q2 q3 : Asn} (h : CS w0 g ca cl cc A w (q1 :: q2 :: q3 :: ps)) : CS w0 g ca cl cc A w (q1 :: q2 :: ps) := by
  obtain ⟨h0, h1, h2, F, ⟨F1, F2, rfl, hd, hq, F3, F4, rfl, hd2, hq', F5, F6, rfl, hd3, hq3, h3⟩, h4⟩ := h
  refine ⟨h0, h1, h2, F1 ++ (F3 ++ F6), ⟨F1, F3 ++ F6, rfl, fun b hb hb2 => hd b hb ?_, hq, F3, F6, rfl, fun b hb hb2 => hd2 b hb (List.mem_append.2 (.inr hb2)), hq', h3⟩, fun b hb => h4 b ?_⟩
  · rcases List.mem_append.1 hb2 with h | h
    · exact List.mem_append.2 (.inl h)
    · exact List.mem_append.2 (.inr (List.mem_append.2 (.inr h)))
  · simp only [List.mem_append] at hb ⊢
    rcases hb with h | h | h
    · exact .inl h
    · exact .inr (.inl h)
    · exact .inr (.inr (.inr h))
/-- The second part is let go. -/
theorem CS.third2 {q1 q2 : Asn} (h : CS w0 g ca cl cc A w (q1 :: q2 :: ps)) : CS w0 g ca cl cc A w (q1 :: ps) := h.swap.tail
theorem CS.drew (h : CS w0 g ca cl cc A w ps) : CS w0 g ca cl cc A w.drew ps := h.grow (bdr (bb _))
theorem CS.alloc (h : CS w0 g ca cl cc A w ps) (o : Obj) : CS w0 g ca cl cc A (w.alloc o) ps := h.grow (bal (bb _) o)
theorem CS.alloc_box (h : CS w0 g ca cl cc A w ps) (cs : Array Value) (t : TypeId) : CS w0 g ca cl cc A (w.alloc (.cells cs t)) (Box w.heap.size t cs :: ps) :=
  h.new (bal (bb _) _) (F := [w.heap.size]) ⟨rfl, heap_alloc_new w _⟩ (by simp)
theorem CS.box (h : CS w0 g ca cl cc A w ps) (hi : ps[i]? = some (Box b t cs)) : w0.heap.size ≤ b ∧ b < w.heap.size ∧ w.heap[b]? = some (.cells cs t (0, 0)) := by
  obtain ⟨F, hp, hF⟩ := h.get hi
  have hlt := (Box b t cs).lt hp b
  obtain ⟨rfl, hh⟩ := hp
  exact ⟨hF b (by simp), hlt (by simp), hh⟩
theorem CS.cell (h : CS w0 g ca cl cc A w ps) (hi : ps[i]? = some (Box b t cs)) {u : Value} (ho : cs[o]? = some u) : w.cell? ⟨b, o, none⟩ = some u := by
  simp [World.cell?, (h.box hi).2.2, ho]
theorem CS.frozen (h : CS w0 g ca cl cc A w ps) (hi : ps[i]? = some (Box b t cs)) (o : Nat) : w.frozen? ⟨b, o, none⟩ = false := by
  simp [World.frozen?, (h.box hi).2.2]
theorem CS.store (h : CS w0 g ca cl cc A w ps) (hi : ps[i]? = some (Box b t cs)) (o : Nat) (u : Value) : CS w0 g ca cl cc A (w.setCell ⟨b, o, none⟩ u) (ps.set i (Box b t (cs.setIfInBounds o u))) := by
  obtain ⟨Fi, ⟨rfl, hh⟩, hF, hall⟩ := h.upd hi
  exact hall _ (Box b t (cs.setIfInBounds o u)) [b] ((Chg.refl _ _).set (by simp) _) ⟨rfl, by simp [World.setCell, Array.getElem?_modify, hh]⟩ fun b hb => .inl hb
theorem CS.own (h : CS w0 g ca cl cc A w ps) (hi : ps[i]? = some (Own e size v n xs)) : w.ownsRow 0 e size v n xs := by
  obtain ⟨F, hp, _⟩ := h.get hi
  exact hp.2
theorem CS.owns_end (h : CS w0 g ca cl cc A w ps) (hi : ps[i]? = some (Own e size v n xs)) : w.ownsRow w0.heap.size e size v n xs := by
  obtain ⟨F, ⟨rfl, h1⟩, h2⟩ := h.get hi
  exact owns_base h1 fun g hg => h2 g (by simp [hg])
theorem CS.own_new (h : CS w0 g ca cl cc A w ps) (hb : Below w.heap.size w w') (ho : w'.ownsRow 0 e size v n xs) (hv : ∀ g, v.ownBlock = some g → w.heap.size ≤ g) : CS w0 g ca cl cc A w' (Own e size v n xs :: ps) :=
  h.new hb (F := v.ownBlock.toList) ⟨rfl, ho⟩ fun b hm => hv b (by simpa using hm)
theorem CS.own_made (h : CS w0 g ca cl cc A w ps) (e : TypeId) (size : Nat) : CS w0 g ca cl cc A (w.alloc (.cells #[] e)) (Own e size (.slice (some ⟨w.heap.size, 0, none⟩) 0 0) 0 [] :: ps) :=
  h.own_new (bal (bb _) _) ⟨by simp, .inr ⟨w.heap.size, 0, #[], rfl, Nat.zero_le _, heap_alloc_new w _, Nat.le_refl _, by decide, by simp, by simp⟩⟩ (fun g hg => by
    have : w.heap.size = g := by simpa [Value.ownBlock] using hg
    omega)
theorem CS.own_push (h : CS w0 g ca cl cc A w ps) (hi : ps[i]? = some (Own e size v n xs)) (hb : Below w.heap.size w w1) (ho : w'.ownsRow 0 e size v' n' xs') (hg : w1.grownBy w' v.ownBlock)
    (hat : v'.ownBlock = v.ownBlock ∨ v'.ownBlock = some w1.heap.size) : CS w0 g ca cl cc A w' (ps.set i (Own e size v' n' xs')) := by
  obtain ⟨F, ⟨rfl, hh⟩, hF, hall⟩ := h.upd hi
  refine hall w' _ v'.ownBlock.toList ?_ ⟨rfl, ho⟩ fun b hm => ?_
  · exact ⟨hg.os.trans hb.os, hg.tape.trans hb.tape, hg.output.trans hb.output, Nat.le_trans hb.size hg.size, fun k hk hn =>
      (hg.block k (Nat.lt_of_lt_of_le hk hb.size) (fun e => hn (by simp [← e]))).trans (hb.block k hk)⟩
  · rcases hat with h1 | h1
    · exact .inl (by rw [h1] at hm; exact hm)
    · rw [h1] at hm
      obtain rfl : b = w1.heap.size := by simpa using hm
      exact .inr hb.size
/-- A store into an own row. -/
theorem CS.own_put {cap : Nat} {gx : Nat} (h : CS w0 g ca cl cc A w ps) (hi : ps[i]? = some (Own e size (.slice (some ⟨gx, 0, none⟩) n cap) n xs)) (u : Value) (ho : o < n * size) :
    CS w0 g ca cl cc A (w.setCell ⟨gx, o, none⟩ u) (ps.set i (Own e size (.slice (some ⟨gx, 0, none⟩) n cap) n (xs.set o u))) := by
  obtain ⟨F, ⟨rfl, hh⟩, hF, hall⟩ := h.upd hi
  have hlen := hh.1
  obtain ⟨g', cap', cur, e1, h0, hg, hn, hm, hc, ht⟩ := own_block hh (by
    rcases Nat.eq_zero_or_pos n with rfl | h
    · simp at ho
    · exact h)
  simp only [Value.slice.injEq, Option.some.injEq, Addr.mk.injEq] at e1
  obtain ⟨⟨rfl, _⟩, _, rfl⟩ := e1
  have hset : (w.setCell ⟨gx, o, none⟩ u).heap[gx]? = some (.cells (cur.setIfInBounds o u) e (0, 0)) := by
    simp [World.setCell, Array.getElem?_modify]
    exact ⟨_, hg, rfl⟩
  refine hall _ _ [gx] ?_ ⟨rfl, by rw [List.length_set]; exact hlen, .inr ⟨gx, cap, cur.setIfInBounds o u, rfl, Nat.zero_le _, hset, hn, hm, by rw [Array.size_setIfInBounds]; exact hc, ?_⟩⟩ fun b hb => .inl hb
  · exact ⟨rfl, rfl, rfl, by simp [World.setCell], fun k _ hn => Below.heap_setCell _ _ _ _ (by simpa [Value.ownBlock] using hn)⟩
  · rw [Array.toList_setIfInBounds, List.take_set, ht]
/-- Parts of a call's own go in front. -/
theorem CS.seq {qs : List Asn} (h : CS w0 g ca cl cc A w ps) (k : Sp w w' qs) : CS w0 g ca cl cc A w' (qs ++ ps) := by
  have hsz := h.chg.size
  obtain ⟨h0, h1, h2, G, h3, h4⟩ := h
  obtain ⟨k1, F, k2, k3⟩ := k
  refine ⟨h0, h1.grow k1, h2.then k1, F ++ G, sep_append k2 (sep_keep h3 fun b hm => k1.block b (sep_lt h3 b hm)) (fun b hb hb2 => ?_), fun b hb => ?_⟩
  · have := k3 b hb; have := sep_lt h3 b hb2; omega
  · rcases List.mem_append.1 hb with hm | hm
    · have := k3 b hm; omega
    · exact h4 b hm
end
end Go.Proofs.Ytcdgpekefiplnaa
