/- Contracts: planned diagrams, in the program. -/
import Derived.Test.YtgcdifabbaoomaaDgE
namespace Go.Proofs.Ytgcdifabbaoomaa
open Go.RowKit

theorem owns_base {w : World} {B : Nat} {e : TypeId} {size : Nat} {v : Value} {n : Nat} {xs : List Value} (h : w.ownsRow 0 e size v n xs) (hB : ∀ g, v.ownBlock = some g → B ≤ g) : w.ownsRow B e size v n xs := by
  obtain ⟨hl, h | ⟨g, cap, cur, rfl, hg, r⟩⟩ := h
  · exact ⟨hl, .inl h⟩
  · exact ⟨hl, .inr ⟨g, cap, cur, rfl, hB g rfl, r⟩⟩
theorem owns_zero {w : World} {B : Nat} {e : TypeId} {size : Nat} {v : Value} {n : Nat} {xs : List Value} (h : w.ownsRow B e size v n xs) : w.ownsRow 0 e size v n xs := by
  obtain ⟨hl, h | ⟨g, cap, cur, rfl, hg, r⟩⟩ := h
  · exact ⟨hl, .inl h⟩
  · exact ⟨hl, .inr ⟨g, cap, cur, rfl, Nat.zero_le _, r⟩⟩
theorem owns_ge {w : World} {B : Nat} {e : TypeId} {size : Nat} {v : Value} {n : Nat} {xs : List Value} (h : w.ownsRow B e size v n xs) : ∀ g, v.ownBlock = some g → B ≤ g := by
  obtain ⟨hl, ⟨rfl, _⟩ | ⟨g, cap, cur, rfl, hg, r⟩⟩ := h
  · intro g hg; cases hg
  · intro g' hg'
    obtain rfl : g = g' := by simpa [Value.ownBlock] using hg'
    exact hg
/-- The row that a list of parts owns, at the end. -/
theorem Sp.owns_end {w0 w : World} {ps : List Asn} {i : Nat} {size n : Nat} {e : TypeId} {v : Value} {xs : List Value} (h : Sp w0 w ps) (hi : ps[i]? = some (Own e size v n xs)) : w.ownsRow w0.heap.size e size v n xs := by
  obtain ⟨F, ⟨rfl, h1⟩, h2⟩ := h.get hi
  exact owns_base h1 fun g hg => h2 g (by simp [hg])
theorem Sp.own_call {w0 w w' : World} {ps : List Asn} {size n : Nat} {e : TypeId} {v : Value} {xs : List Value} (h : Sp w0 w ps) (hb : Below w.heap.size w w') (ho : w'.ownsRow w.heap.size e size v n xs) : Sp w0 w' (Own e size v n xs :: ps) :=
  h.own_new hb (owns_zero ho) (owns_ge ho)
theorem sep_append : ∀ {qs ps : List Asn} {w : World} {F G : List Nat}, sep qs w F → sep ps w G → (∀ b ∈ F, b ∉ G) → sep (qs ++ ps) w (F ++ G)
  | [], ps, w, F, G, h, k, hd => by
    obtain rfl : F = [] := h
    exact k
  | q :: qs, ps, w, F, G, h, k, hd => by
    obtain ⟨F1, F2, rfl, h1, h2, h3⟩ := h
    refine ⟨F1, F2 ++ G, by rw [List.append_assoc], fun b hb hb2 => ?_, h2, sep_append h3 k fun b hb => hd b (List.mem_append.2 (.inr hb))⟩
    rcases List.mem_append.1 hb2 with h | h
    · exact h1 b hb h
    · exact hd b (List.mem_append.2 (.inl hb)) h
/-- Parts made by a call go in front. -/
theorem Sp.seq {w0 w w' : World} {ps qs : List Asn} (h : Sp w0 w ps) (k : Sp w w' qs) : Sp w0 w' (qs ++ ps) := by
  obtain ⟨h1, G, h2, h3⟩ := h
  obtain ⟨k1, F, k2, k3⟩ := k
  refine ⟨btr h1 k1, F ++ G, sep_append k2 (sep_keep h2 fun b hm => k1.block b (sep_lt h2 b hm)) (fun b hb hb2 => ?_), fun b hb => ?_⟩
  · have := k3 b hb; have := sep_lt h2 b hb2; omega
  · rcases List.mem_append.1 hb with h | h
    · have := k3 b h; have := h1.size; omega
    · exact h3 b h

/-- A diagram that can be read. -/
def DgPost (w : World) (ns : List Nd) (v : Value) (w' : World) : Prop := ∃ A c, v = .slice A ns.length c ∧ NdAt w' A ns ∧ (∀ a, A = some a → w.heap.size ≤ a.block) ∧ Below w.heap.size w w'
theorem NdAt.keep {w w' : World} {A : Option Addr} {ns : List Nd} (h : NdAt w A ns) (hk : ∀ a, A = some a → w'.heap[a.block]? = w.heap[a.block]?) : NdAt w' A ns := by
  refine ⟨fun j hj => ?_, h.ok⟩
  obtain ⟨b, off, e, h1, h2, h3⟩ := h.at_ j hj
  have hc : ∀ o, w'.cell? ⟨b, o, none⟩ = w.cell? ⟨b, o, none⟩ := fun o => World.cell?_of_block (a := ⟨b, o, none⟩) (hk ⟨b, off, none⟩ e)
  exact ⟨b, off, e, (hc _).trans h1, (hc _).trans h2, (hc _).trans h3⟩
/-- A store into another block. -/
theorem NdAt.set {w : World} {A : Option Addr} {ns : List Nd} (h : NdAt w A ns) {g : Nat} (hg : ∀ a, A = some a → a.block ≠ g) (o : Nat) (u : Value) : NdAt (w.setCell ⟨g, o, none⟩ u) A ns :=
  h.keep fun a ha => Below.heap_setCell _ _ _ _ (hg a ha)
theorem own_from {w : World} {B : Nat} {e : TypeId} {size : Nat} {A : Option Addr} {n c : Nat} {k : Nat} {xs : List Value} (h : w.ownsRow B e size (.slice A n c) k xs) : ∀ a, A = some a → B ≤ a.block := by
  rintro a rfl
  exact owns_ge h a.block rfl

set_option maxRecDepth 100000 in
set_option maxHeartbeats 4000000 in
theorem planned_any (vars : Nat) (g : FuncId) (cb : Array Value) (f : Nat → Bool) (w : World) (hvars : vars ≤ 6) (eg : ∀ args w, (callFunc g args).run Try.prog w = .ok (.enter g args) w) (hfn : FnOk w vars g cb f) :
    Calls Try.prog 44 #[.int .i64 vars, .func (.func g) #[] cb] w fun e w' => ∃ v, e = .returned (dgV (dgR vars f) v) ∧ DgPost w (dgN vars f) v w' := by
  have HS0 := Lib.hid ((Sp.start w).alloc_box #[.int .i64 0, .slice none 0 0] 26)
  have hB0 := bal (bb w) (.cells #[.int .i64 0, .slice none 0 0] 26)
  have hfn0 : FnOk (w.alloc (.cells #[.int .i64 0, .slice none 0 0] 26)) vars g cb f := fun b w' hb hbl => hfn b w' hb (btr hB0 hbl)
  have S0 := ((Sp.start (w.alloc (.cells #[.int .i64 0, .slice none 0 0] 26))).own_nil 67 3).alloc_box #[.int .i64 vars, .func (.func g) #[] cb, .slice none 0 0] 91
  simp only [World.size_alloc] at S0
  have hm := dg_made vars f
  have hok := Lib.hid (nd_small hm.ok (by omega) (by have := dg_len f hvars; omega))
  have hcall := Lib.hid (from_any hvars eg hfn0 vars 1 0 [] (.slice none 0 0) _ (by omega) (by omega) (by decide) (fun i hi => by simp at hi) (by have : 2 ^ vars ≤ 2 ^ 6 := Nat.pow_le_pow_right (by decide) hvars; simp; omega) S0)
  have e1 : (planF f vars 1 0 []).2 = dgR vars f := rfl
  have e2 : (planF f vars 1 0 []).1 = dgN vars f := rfl
  rw [e1, e2] at hcall
  replace hB0 := Lib.hid hB0
  clear e1 e2 hm hfn hfn0 S0
  generalize dgR vars f = r at *
  generalize dgN vars f = ns at *
  go_enter Try.func44, Try.ntmps44
  go_wp2_with fail
  refine hcall.out.mono ?_
  rintro e w1 ⟨sv, rfl, HS⟩
  have HS1 : Sp w w1 [Box (w.heap.size + 1) 91 #[.int .i64 vars, .func (.func g) #[] cb, sv], Own 67 3 sv ns.length (ns.flatMap ndEnc), Box w.heap.size 26 #[.int .i64 0, .slice none 0 0]] := HS0.out.seq HS
  obtain ⟨A, c, rfl, -⟩ := nd_own (HS1.own (i := 1) rfl) hok.out
  have c2 := HS1.cell (i := 0) rfl (o := 2) rfl
  have r0 := HS1.cell (i := 2) rfl (o := 0) rfl
  have r1 := HS1.cell (i := 2) rfl (o := 1) rfl
  have f0 := HS1.frozen (i := 2) rfl 0
  have f1 := HS1.frozen (i := 2) rfl 1
  have S2 := Lib.hid ((HS1.store (i := 2) rfl 0 (.int .i64 r)).store (i := 2) rfl 1 (.slice A ns.length c))
  clear hcall HS HS0 HS1 hB0
  have j0 := S2.out.cell (i := 2) rfl (o := 0) rfl
  have j1 := S2.out.cell (i := 2) rfl (o := 1) rfl
  obtain ⟨A', c', e1, hN⟩ := nd_own (S2.out.own (i := 1) rfl) hok.out
  have hB := S2.out.below
  have hfrom := Lib.hid (own_from (S2.out.owns_end (i := 1) rfl))
  cases e1
  replace hN := Lib.hid hN
  clear S2 hok
  go_wp2_with fail
  exact bodyPost_ret (v := .agg #[.int .i64 r, .slice A ns.length c]) (by simp [results, Try.results44, go_sem, j0, j1]) rfl ⟨_, rfl, _, _, rfl, hN.out, hfrom.out, hB⟩
end Go.Proofs.Ytgcdifabbaoomaa
