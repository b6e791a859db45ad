/- What a round of the closure has found so far: plain facts, and the memory that holds it. -/
import Derived.Test.YtebpknekaljgnaaNwG
namespace Go.Proofs.Ytebpknekaljgnaa
open Go.RowKit

theorem sep_swap_in {w : World} {q p : Asn} {F1 : List Nat} (hq : q.p w F1) : ∀ {ps : List Asn} {F : List Nat} {i : Nat}, sep ps w F → (∀ b ∈ F1, b ∉ F) → ps[i]? = some p → ∃ F', sep (ps.set i q) w F' ∧ ∀ b ∈ F', b ∈ F1 ∨ b ∈ F
  | [], _, _, _, _, h => by simp at h
  | x :: ps, _, 0, h, hd, hi => by
    obtain ⟨F2, F3, rfl, hd2, h1, h2⟩ := h
    exact ⟨F1 ++ F3, ⟨F1, F3, rfl, fun b hb hb2 => hd b hb (List.mem_append.2 (.inr hb2)), hq, h2⟩, fun b hb => by
      rcases List.mem_append.1 hb with h | h
      · exact .inl h
      · exact .inr (List.mem_append.2 (.inr h))⟩
  | x :: ps, _, i + 1, h, hd, hi => by
    obtain ⟨F2, F3, rfl, hd2, h1, h2⟩ := h
    obtain ⟨F', h3, h4⟩ := sep_swap_in hq (i := i) h2 (fun b hb hb2 => hd b hb (List.mem_append.2 (.inr hb2))) (by simpa using hi)
    refine ⟨F2 ++ F', ⟨F2, F', rfl, fun b hb hb2 => ?_, h1, h3⟩, fun b hb => ?_⟩
    · rcases h4 b hb2 with h | h
      · exact hd b h (List.mem_append.2 (.inl hb))
      · exact hd2 b hb h
    · rcases List.mem_append.1 hb with h | h
      · exact .inr (List.mem_append.2 (.inl h))
      · exact (h4 b h).imp id fun h => List.mem_append.2 (.inr h)
/-- The part in front takes the place of another one. -/
theorem Sp.swap_in {w0 w : World} {q p : Asn} {ps : List Asn} {i : Nat} (h : Sp w0 w (q :: ps)) (hi : ps[i]? = some p) : Sp w0 w (ps.set i q) := by
  obtain ⟨h1, F, ⟨F1, F2, rfl, hd, hq, h2⟩, h3⟩ := h
  obtain ⟨F', h4, h5⟩ := sep_swap_in hq h2 hd hi
  exact ⟨h1, F', h4, fun b hb => h3 b (List.mem_append.2 (h5 b hb))⟩
theorem Sp.pool_slices {w0 w : World} {ps : List Asn} {j : Nat} {K ks : List (Value × List Int)} (h : Sp w0 w ps) (hj : ps[j]? = some (Pool K)) (hk : ∀ q ∈ ks, q ∈ K) : ∀ q ∈ ks, ∃ a n c, q.1 = .slice a n c := fun q hq => by
  obtain ⟨G, hG⟩ := h.pool_at hj (hk q hq)
  obtain ⟨a, c, e, _⟩ := Ty.row_len hG
  exact ⟨a, _, c, e⟩

theorem own_cell {w : World} {B : Nat} {e : TypeId} {n c g : Nat} {cs : List Value} {j : Nat} {u : Value} (h : w.ownsRow B e 1 (.slice (some ⟨g, 0, none⟩) n c) n cs) (hj : cs[j]? = some u) : w.cell? ⟨g, j, none⟩ = some u := by
  obtain ⟨_, ⟨e, _⟩ | ⟨g', c', e, _, _, h3⟩⟩ := own_view h
  · cases e
  · simp only [Value.slice.injEq, Option.some.injEq, Addr.mk.injEq] at e
    obtain ⟨⟨rfl, _⟩, _, rfl⟩ := e
    exact h3 j u hj
/-- An own row that is not empty lies somewhere. -/
theorem own_ptr {w : World} {B : Nat} {e : TypeId} {n c : Nat} {A : Option Addr} {cs : List Value} (h : w.ownsRow B e 1 (.slice A n c) n cs) (hn : 0 < n) : ∃ g, A = some ⟨g, 0, none⟩ := by
  obtain ⟨_, ⟨e, h0, _⟩ | ⟨g', c', e, _⟩⟩ := own_view h
  · omega
  · simp only [Value.slice.injEq] at e
    exact ⟨g', e.1⟩
theorem insI_i64 {ys : List Int} {P : Nat} {x : Int} (h : ∀ y ∈ ys, I64 y) (hx : I64 x) : ∀ y ∈ insI ys P x, I64 y := fun y hy => by
  rcases insI_mem.1 hy with rfl | hy
  · exact hx
  · exact h y hy
/-- What has been found so far. -/
structure Found (L : List (List Int)) (width : Int) (cand : List Int → Prop) (fd : List (List Int)) : Prop where
  asc : Asc fd
  good : ∀ c ∈ fd, Good c
  mem : ∀ c, c ∈ fd ↔ cand c ∧ (c.length : Int) ≤ width ∧ c ∉ L
section
variable {L fd : List (List Int)} {width : Int} {cand cand' : List Int → Prop}
theorem Found.congr (h : Found L width cand fd) (he : ∀ c, cand c ↔ cand' c) : Found L width cand' fd := ⟨h.asc, h.good, fun c => by rw [h.mem, he]⟩
theorem Found.skip (h : Found L width cand fd) {r : Option (List Int)} (hr : ∀ c, r = some c → (width < (c.length : Int) ∨ c ∈ L ∨ c ∈ fd)) : Found L width (fun c => cand c ∨ r = some c) fd :=
  ⟨h.asc, h.good, fun c => by
    constructor
    · intro hc
      have := (h.mem c).1 hc
      exact ⟨.inl this.1, this.2⟩
    · rintro ⟨hc | hc, h1, h2⟩
      · exact (h.mem c).2 ⟨hc, h1, h2⟩
      · rcases hr c hc with h3 | h3 | h3
        · omega
        · exact absurd h3 h2
        · exact h3⟩
theorem Found.add (h : Found L width cand fd) {c : List Int} (hg : Good c) (h1 : (c.length : Int) ≤ width) (h2 : c ∉ L) (h3 : c ∉ fd) : Found L width (fun d => cand d ∨ some c = some d) (insB fd c) :=
  ⟨h.asc.ins h3, fun d hd => by
    rcases mem_insB.1 hd with rfl | hd
    · exact hg
    · exact h.good d hd, fun d => by
    rw [mem_insB, h.mem, Option.some.injEq]
    constructor
    · rintro (rfl | ⟨a, b⟩)
      · exact ⟨.inr rfl, h1, h2⟩
      · exact ⟨.inl a, b⟩
    · rintro ⟨a | rfl, b⟩
      · exact .inr ⟨a, b⟩
      · exact .inl rfl⟩
theorem Found.none (L : List (List Int)) (width : Int) : Found L width (fun _ => False) [] := ⟨by simp, by simp, by simp⟩
end

/-- The pairs, by their places in the order. -/
def resP (L : List (List Int)) (R ord : List Int) (r : Nat) (p q : Nat) (v : Int) (c : List Int) : Prop :=
  1 ≤ v ∧ ∃ i j : Nat, ord[p]? = some (i : Int) ∧ ord[q]? = some (j : Int) ∧ ∃ (hi : i < L.length) (hj : j < L.length), ¬ (R.getD i 0 < (r : Int) ∧ R.getD j 0 < (r : Int)) ∧ resB L[i] L[j] v = some c
def candA (L : List (List Int)) (R ord : List Int) (r : Nat) (a : Nat) (c : List Int) : Prop := ∃ p q v, p < a ∧ resP L R ord r p q v c
def candB (L : List (List Int)) (R ord : List Int) (r : Nat) (a b : Nat) (c : List Int) : Prop := candA L R ord r a c ∨ ∃ q v, q < b ∧ resP L R ord r a q v c
def candV (L : List (List Int)) (R ord : List Int) (r : Nat) (a b : Nat) (x : Int) (c : List Int) : Prop := candB L R ord r a b c ∨ ∃ v, v < x ∧ resP L R ord r a b v c
section
variable {L : List (List Int)} {R ord : List Int} {r a b : Nat} {c : List Int}
theorem candA_zero : (False ↔ candA L R ord r 0 c) := ⟨fun h => h.elim, fun ⟨_, _, _, h, _⟩ => by omega⟩
theorem candB_zero : candA L R ord r a c ↔ candB L R ord r a 0 c := ⟨.inl, fun h => h.elim id fun ⟨_, _, h, _⟩ => by omega⟩
theorem candV_one : candB L R ord r a b c ↔ candV L R ord r a b 1 c := ⟨.inl, fun h => h.elim id fun ⟨_, h, h2, _⟩ => by omega⟩
theorem candV_succ {i j : Nat} {x : Int} (hx : 1 ≤ x) (hi : ord[a]? = some (i : Int)) (hj : ord[b]? = some (j : Int)) (hil : i < L.length) (hjl : j < L.length) (hn : ¬ (R.getD i 0 < (r : Int) ∧ R.getD j 0 < (r : Int))) :
    (candV L R ord r a b x c ∨ resB L[i] L[j] x = some c) ↔ candV L R ord r a b (x + 1) c := by
  constructor
  · rintro ((h | ⟨v, h1, h2⟩) | h)
    · exact .inl h
    · exact .inr ⟨v, by omega, h2⟩
    · exact .inr ⟨x, by omega, hx, i, j, hi, hj, hil, hjl, hn, h⟩
  · rintro (h | ⟨v, h1, h2⟩)
    · exact .inl (.inl h)
    · by_cases e : v = x
      · subst e
        obtain ⟨_, i', j', hi', hj', hil', hjl', _, h3⟩ := h2
        rw [hi] at hi'; rw [hj] at hj'
        obtain rfl : i = i' := by have := Option.some.inj hi'; omega
        obtain rfl : j = j' := by have := Option.some.inj hj'; omega
        exact .inr h3
      · exact .inl (.inr ⟨v, by omega, h2⟩)
theorem resP_le {n : Int} (hg : ∀ c ∈ L, Good c ∧ ∀ l ∈ c, -n ≤ l ∧ l ≤ n) {p q : Nat} {v : Int} (h : resP L R ord r p q v c) : v ≤ n := by
  obtain ⟨hv, i, j, _, _, hi, hj, _, h⟩ := h
  obtain ⟨g1, n1⟩ := hg _ (List.getElem_mem hi)
  obtain ⟨g2, n2⟩ := hg _ (List.getElem_mem hj)
  obtain ⟨h1, _⟩ := (resB_iff g1 g2 hv).1 h
  exact (n1 v h1).2
theorem candB_succ {n : Int} (hg : ∀ c ∈ L, Good c ∧ ∀ l ∈ c, -n ≤ l ∧ l ≤ n) : candV L R ord r a b (n + 1) c ↔ candB L R ord r a (b + 1) c := by
  constructor
  · rintro ((h | ⟨q, v, h1, h2⟩) | ⟨v, h1, h2⟩)
    · exact .inl h
    · exact .inr ⟨q, v, by omega, h2⟩
    · exact .inr ⟨b, v, by omega, h2⟩
  · rintro (h | ⟨q, v, h1, h2⟩)
    · exact .inl (.inl h)
    · by_cases e : q = b
      · subst e; exact .inr ⟨v, by have := resP_le hg h2; omega, h2⟩
      · exact .inl (.inr ⟨q, v, by omega, h2⟩)
theorem candB_skip {i j : Nat} (hi : ord[a]? = some (i : Int)) (hj : ord[b]? = some (j : Int)) (hn : R.getD i 0 < (r : Int) ∧ R.getD j 0 < (r : Int)) : candB L R ord r a b c ↔ candB L R ord r a (b + 1) c := by
  constructor
  · rintro (h | ⟨q, v, h1, h2⟩)
    · exact .inl h
    · exact .inr ⟨q, v, by omega, h2⟩
  · rintro (h | ⟨q, v, h1, h2⟩)
    · exact .inl h
    · by_cases e : q = b
      · subst e
        obtain ⟨_, i', j', hi', hj', _, _, h3, _⟩ := h2
        rw [hi] at hi'; rw [hj] at hj'
        obtain rfl : i = i' := by have := Option.some.inj hi'; omega
        obtain rfl : j = j' := by have := Option.some.inj hj'; omega
        exact absurd hn h3
      · exact .inr ⟨q, v, by omega, h2⟩
theorem candA_succ : candB L R ord r a ord.length c ↔ candA L R ord r (a + 1) c := by
  constructor
  · rintro (⟨p, q, v, h1, h2⟩ | ⟨q, v, h1, h2⟩)
    · exact ⟨p, q, v, by omega, h2⟩
    · exact ⟨a, q, v, by omega, h2⟩
  · rintro ⟨p, q, v, h1, h2⟩
    by_cases e : p = a
    · subst e
      refine .inr ⟨q, v, ?_, h2⟩
      obtain ⟨_, _, _, _, h3, _⟩ := h2
      exact (List.getElem?_eq_some_iff.1 h3).1
    · exact .inl ⟨p, q, v, by omega, h2⟩
theorem candA_all (ho : Perm0 ord L.length) : candA L R ord r ord.length c ↔ candR L R r c := by
  constructor
  · rintro ⟨p, q, v, _, hv, i, j, _, _, hi, hj, hn, h⟩
    exact ⟨i, j, v, hi, hj, hv, hn, h⟩
  · rintro ⟨i, j, v, hi, hj, hv, hn, h⟩
    obtain ⟨p, hp, e1⟩ := List.getElem_of_mem ((ho.mem i).2 ⟨by omega, by omega⟩)
    obtain ⟨q, hq, e2⟩ := List.getElem_of_mem ((ho.mem j).2 ⟨by omega, by omega⟩)
    exact ⟨p, q, v, hp, hv, i, j, by rw [List.getElem?_eq_getElem hp, e1], by rw [List.getElem?_eq_getElem hq, e2], hi, hj, hn, h⟩
end

/-- A closure in the making. -/
structure WS (F0 : List (List Int)) (width : Int) (r : Nat) (kl ks K : List (Value × List Int)) (R A B C : List Int) : Prop where
  at_ : At F0 width r (kl.map Prod.snd) R
  asc : Asc (ks.map Prod.snd)
  same : ∀ c, c ∈ ks.map Prod.snd ↔ c ∈ kl.map Prod.snd
  ml : ∀ q ∈ kl, q ∈ K
  ms : ∀ q ∈ ks, q ∈ K
  la : A.length = kl.length
  lb : B.length = kl.length
  lc : C.length = kl.length
theorem WS.len {F0 : List (List Int)} {width : Int} {r : Nat} {kl ks K : List (Value × List Int)} {R A B C : List Int} (h : WS F0 width r kl ks K R A B C) : R.length = kl.length := by have := h.at_.len; simpa using this
theorem WS.few {F0 : List (List Int)} {width n : Int} {r : Nat} {kl ks K : List (Value × List Int)} {R A B C : List Int} (h : WS F0 width r kl ks K R A B C) (hF : GoodF n F0) : kl.length ≤ 4096 := by have := h.at_.few hF; simpa using this
theorem WS.fews {F0 : List (List Int)} {width n : Int} {r : Nat} {kl ks K : List (Value × List Int)} {R A B C : List Int} (h : WS F0 width r kl ks K R A B C) (hF : GoodF n F0) : ks.length ≤ 4096 := by
  have := good_few h.asc.nodup fun c hc => (h.at_.good hF c ((h.same c).1 hc)).1
  simpa using this
theorem WS.gl {F0 : List (List Int)} {width n : Int} {r : Nat} {kl ks K : List (Value × List Int)} {R A B C : List Int} (h : WS F0 width r kl ks K R A B C) (hF : GoodF n F0) : ∀ c ∈ kl.map Prod.snd, Good c ∧ ∀ l ∈ c, -n ≤ l ∧ l ≤ n := h.at_.good hF
theorem WS.gs {F0 : List (List Int)} {width n : Int} {r : Nat} {kl ks K : List (Value × List Int)} {R A B C : List Int} (h : WS F0 width r kl ks K R A B C) (hF : GoodF n F0) : ∀ c ∈ ks.map Prod.snd, Good c := fun c hc => (h.gl hF c ((h.same c).1 hc)).1
theorem WS.ri {F0 : List (List Int)} {width : Int} {r : Nat} {kl ks K : List (Value × List Int)} {R A B C : List Int} (h : WS F0 width r kl ks K R A B C) (hr : r ≤ 10000) : ∀ y ∈ R, I64 y := fun y hy => by
  obtain ⟨i, hi, rfl⟩ := List.getElem_of_mem hy
  obtain ⟨k, e, h1, _⟩ := h.at_.rank i (by rw [← h.at_.len]; exact hi)
  rw [List.getElem?_eq_getElem hi] at e
  have := Option.some.inj e
  unfold I64; omega

/-- The parts of the memory while a round goes on. -/
abbrev RoundParts (bf b8 b5 : Nat) (vx vy vz vf ov lv rv av bv pv sv : Value) (X Y Z : List Int) (fks : List (Value × List Int)) (ord : List Int) (kl ks K : List (Value × List Int)) (R A B C : List Int) (ps : List Asn) : List Asn :=
  Box bf 50 #[.slice none 0 0, .slice none 0 0, vx, vy, vz, vf] :: Ints vx X :: Ints vy Y :: Ints vz Z :: Cls vf fks :: Ints ov ord :: Box b8 50 #[.slice none 0 0, .slice none 0 0, .slice none 0 0, .slice none 0 0, .slice none 0 0, .slice none 0 0] ::
    Box b5 50 #[lv, rv, av, bv, pv, sv] :: Cls lv kl :: Ints rv R :: Ints av A :: Ints bv B :: Ints pv C :: Cls sv ks :: Pool K :: ps
/-- What a round has found so far, with its memory. -/
def RS (w0 : World) (bf b8 b5 : Nat) (ov lv rv av bv pv sv : Value) (ord : List Int) (kl ks K0 : List (Value × List Int)) (R A B C : List Int) (ps : List Asn) (width : Int) (cand : List Int → Prop) (wr : World) : Prop :=
  ∃ vx vy vz vf X Y Z fks K, Sp w0 wr (RoundParts bf b8 b5 vx vy vz vf ov lv rv av bv pv sv X Y Z fks ord kl ks K R A B C ps) ∧ X.length = fks.length ∧ Y.length = fks.length ∧ Z.length = fks.length ∧ (∀ y ∈ X, I64 y) ∧ (∀ y ∈ Y, I64 y) ∧ (∀ y ∈ Z, I64 y) ∧ Found (kl.map Prod.snd) width cand (fks.map Prod.snd) ∧ (∀ q ∈ K0, q ∈ K) ∧ (∀ q ∈ fks, q ∈ K)
theorem RS.congr {w0 wr : World} {bf b8 b5 : Nat} {ov lv rv av bv pv sv : Value} {ord : List Int} {kl ks K0 : List (Value × List Int)} {R A B C : List Int} {ps : List Asn} {width : Int} {cand cand' : List Int → Prop}
    (h : RS w0 bf b8 b5 ov lv rv av bv pv sv ord kl ks K0 R A B C ps width cand wr) (he : ∀ c, cand c ↔ cand' c) : RS w0 bf b8 b5 ov lv rv av bv pv sv ord kl ks K0 R A B C ps width cand' wr := by
  obtain ⟨vx, vy, vz, vf, X, Y, Z, fks, K, h1, h2, h3, h4, h5, h6, h7, h8, h9⟩ := h
  exact ⟨vx, vy, vz, vf, X, Y, Z, fks, K, h1, h2, h3, h4, h5, h6, h7, h8.congr he, h9⟩
theorem RS.grow {w0 wr w' : World} {bf b8 b5 : Nat} {ov lv rv av bv pv sv : Value} {ord : List Int} {kl ks K0 : List (Value × List Int)} {R A B C : List Int} {ps : List Asn} {width : Int} {cand : List Int → Prop}
    (h : RS w0 bf b8 b5 ov lv rv av bv pv sv ord kl ks K0 R A B C ps width cand wr) (hb : Below wr.heap.size wr w') : RS w0 bf b8 b5 ov lv rv av bv pv sv ord kl ks K0 R A B C ps width cand w' := by
  obtain ⟨vx, vy, vz, vf, X, Y, Z, fks, K, h1, h2⟩ := h
  exact ⟨vx, vy, vz, vf, X, Y, Z, fks, K, h1.grow hb, h2⟩
/-- The same with lists of different lengths, while a clause is put in. -/
def MS (w0 : World) (bf b8 b5 : Nat) (ov lv rv av bv pv sv : Value) (ord : List Int) (kl ks : List (Value × List Int)) (R A B C : List Int) (ps : List Asn) (nx ny nz : Nat) (vf : Value) (fks K : List (Value × List Int)) (wr : World) : Prop :=
  ∃ vx vy vz X Y Z, Sp w0 wr (RoundParts bf b8 b5 vx vy vz vf ov lv rv av bv pv sv X Y Z fks ord kl ks K R A B C ps) ∧ X.length = nx ∧ Y.length = ny ∧ Z.length = nz ∧ (∀ y ∈ X, I64 y) ∧ (∀ y ∈ Y, I64 y) ∧ (∀ y ∈ Z, I64 y)
theorem MS.rs {w0 wr : World} {bf b8 b5 : Nat} {ov lv rv av bv pv sv vf : Value} {ord : List Int} {kl ks fks K K0 : List (Value × List Int)} {R A B C : List Int} {ps : List Asn} {nx ny nz : Nat} {width : Int} {cand : List Int → Prop}
    (h : MS w0 bf b8 b5 ov lv rv av bv pv sv ord kl ks R A B C ps nx ny nz vf fks K wr) (h1 : fks.length = nx) (h2 : fks.length = ny) (h3 : fks.length = nz) (hf : Found (kl.map Prod.snd) width cand (fks.map Prod.snd)) (hK : ∀ q ∈ K0, q ∈ K) (hk : ∀ q ∈ fks, q ∈ K) :
    RS w0 bf b8 b5 ov lv rv av bv pv sv ord kl ks K0 R A B C ps width cand wr := by
  obtain ⟨vx, vy, vz, X, Y, Z, HS, hX, hY, hZ, IX, IY, IZ⟩ := h
  exact ⟨vx, vy, vz, vf, X, Y, Z, fks, K, HS, hX.trans h1.symm, hY.trans h2.symm, hZ.trans h3.symm, IX, IY, IZ, hf, hK, hk⟩
/-- While the clauses that were found are taken over. -/
def SS (w0 : World) (bf b8 b5 : Nat) (ov av bv pv vx vy vz vf : Value) (X Y Z ord A B C : List Int) (kl ks fks K : List (Value × List Int)) (R : List Int) (ps : List Asn) (rd : Int) (t : Nat) (wr : World) : Prop :=
  ∃ lv rv sv ks' kt Rt, Sp w0 wr (RoundParts bf b8 b5 vx vy vz vf ov lv rv av bv pv sv X Y Z fks ord kt ks' K Rt A B C ps) ∧ kt = kl ++ fks.take t ∧ Rt = R ++ List.replicate t rd ∧ Asc (ks'.map Prod.snd) ∧ (∀ c, c ∈ ks'.map Prod.snd ↔ c ∈ ks.map Prod.snd ∨ c ∈ (fks.take t).map Prod.snd) ∧ ∀ q ∈ ks', q ∈ K
theorem take_more {ks : List (Value × List Int)} {t : Nat} (h : t < ks.length) : ks.take (t + 1) = ks.take t ++ [ks[t]] := List.take_succ_eq_append_getElem h
theorem kl_more {kl fks : List (Value × List Int)} {t : Nat} (h : t < fks.length) : (kl ++ fks.take t).length + 1 = (kl ++ fks.take (t + 1)).length ∧ (kl ++ fks.take t).map Prod.fst ++ [fks[t].1] = (kl ++ fks.take (t + 1)).map Prod.fst := by
  rw [take_more h]
  constructor
  · simp only [List.length_append, List.length_cons, List.length_nil]; omega
  · simp only [List.map_append, List.map_cons, List.map_nil, List.append_assoc]
theorem rs_more {R : List Int} {t : Nat} {rd : Int} : (R ++ List.replicate t rd).length + 1 = (R ++ List.replicate (t + 1) rd).length ∧ (R ++ List.replicate t rd).map (Value.int .i64) ++ [.int .i64 rd] = (R ++ List.replicate (t + 1) rd).map (Value.int .i64) := by
  rw [List.replicate_succ']
  constructor
  · simp only [List.length_append, List.length_cons, List.length_nil]; omega
  · simp
theorem ints_app {v : Value} {A X : List Int} : Own 3 1 v (A.length + X.length) (A.map (Value.int .i64) ++ X.map (.int .i64)) = Ints v (A ++ X) := by
  show _ = Own 3 1 v (A ++ X).length ((A ++ X).map (.int .i64))
  rw [List.length_append, List.map_append]
/-- Whether a round has found something. -/
def FreshOk (F0 : List (List Int)) (width : Int) (r a b : Nat) (q : Bool) : Prop := (q = true → a < b) ∧ (q = false → ∀ s c, inR F0 width s c → inR F0 width (r + 1) c)
/-- A resolvent is not taken. -/
def skipB (L fd : List (List Int)) (width : Int) : Option (List Int) → Bool
  | none => true
  | some c => decide (width < (c.length : Int)) || decide (c ∈ L) || decide (c ∈ fd)
theorem skip_yes {L fd : List (List Int)} {width : Int} {r : Option (List Int)} (h : skipB L fd width r = true) : ∀ c, r = some c → (width < (c.length : Int) ∨ c ∈ L ∨ c ∈ fd) := by
  rintro c rfl
  simpa [skipB, or_assoc] using h
theorem skip_no {L fd : List (List Int)} {width : Int} {r : Option (List Int)} (h : skipB L fd width r = false) : ∃ c, r = some c ∧ (c.length : Int) ≤ width ∧ c ∉ L ∧ c ∉ fd := by
  cases r with
  | none => cases h
  | some c =>
    simp [skipB] at h
    exact ⟨c, rfl, h.1.1, h.1.2, h.2⟩
theorem skip_long {L fd : List (List Int)} {width : Int} {c : List Int} (h : width < (c.length : Int)) : skipB L fd width (some c) = true := by simp [skipB, h]
theorem skip_old {L fd : List (List Int)} {width : Int} {c : List Int} (h : c ∈ L) : skipB L fd width (some c) = true := by simp [skipB, h]
theorem skip_fd {L fd : List (List Int)} {width : Int} {c : List Int} (h : c ∈ fd) : skipB L fd width (some c) = true := by simp [skipB, h]
theorem skip_new {L fd : List (List Int)} {width : Int} {c : List Int} (h1 : ¬ width < (c.length : Int)) (h2 : c ∉ L) (h3 : c ∉ fd) : skipB L fd width (some c) = false := by simp [skipB, h2, h3]; omega
theorem l2At_q {v u : Value} {L : List (List Int)} {c : List Int} {F G : List Nat} {w : World} (hx : (Ty.slice Ty.int).row false w v L F) (hy : Ty.int.row false w u c G) (hL : ∀ x ∈ L, Good x) (hc : Good c) (hl : L.length ≤ 1000000000) (ha : Asc L) :
    ∃ z : Int, (0 ≤ z ↔ c ∈ L) ∧ Calls Try.prog 30 #[v, u] w fun e w' => e = .returned (.int .i64 z) ∧ Below w.heap.size w w' :=
  ⟨atB L c, atB_iff ha, l2At_any v u L c F G w hx hy (fun x hx => (hL x hx).mild) hc.mild hl⟩
end Go.Proofs.Ytebpknekaljgnaa
